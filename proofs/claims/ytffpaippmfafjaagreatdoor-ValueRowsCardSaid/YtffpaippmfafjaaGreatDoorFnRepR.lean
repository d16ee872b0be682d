/-
  The library's replacer of bytes by texts: Replace.
-/
import Derived.Test.YtffpaippmfafjaaGreatDoorStructs
import Derived.Test.YtffpaippmfafjaaGreatDoorShelf
import Derived.Test.YtffpaippmfafjaaGreatDoorFnRepN
namespace Go.Proofs.YtffpaippmfafjaaGreatDoor
open Go

/- PLAIN FACTS -/
def spc (c : UInt8) : Bool := decide (c = 34 ∨ c = 92 ∨ c = 10)
def esc1 (c : UInt8) : List UInt8 := if c = 34 then [92, 34] else if c = 92 then [92, 92] else if c = 10 then [92, 110] else [c]
def escS (s : List UInt8) : List UInt8 := s.flatMap esc1
def nS (s : List UInt8) : Nat := s.countP spc

theorem esc1_len (c : UInt8) : (esc1 c).length = 1 + (if spc c = true then 1 else 0) := by
  unfold esc1 spc
  by_cases h1 : c = 34
  · rw [if_pos h1, if_pos (by simp [h1])]; rfl
  · by_cases h2 : c = 92
    · rw [if_neg h1, if_pos h2, if_pos (by simp [h2])]; rfl
    · by_cases h3 : c = 10
      · rw [if_neg h1, if_neg h2, if_pos h3, if_pos (by simp [h3])]; rfl
      · rw [if_neg h1, if_neg h2, if_neg h3, if_neg (by simp [h1, h2, h3])]; rfl

theorem esc1_other {c : UInt8} (h : spc c = false) : esc1 c = [c] := by
  unfold spc at h
  have := of_decide_eq_false h
  unfold esc1
  rw [if_neg (fun e => this (.inl e)), if_neg (fun e => this (.inr (.inl e))), if_neg (fun e => this (.inr (.inr e)))]

theorem escS_len : ∀ (s : List UInt8), (escS s).length = s.length + nS s
  | [] => rfl
  | c :: s => by
    have ih := escS_len s
    unfold escS nS at ih ⊢
    rw [List.flatMap_cons, List.length_append, ih, esc1_len, List.countP_cons]
    simp
    omega

theorem escS_same : ∀ (s : List UInt8), nS s = 0 → escS s = s
  | [], _ => rfl
  | c :: s, h => by
    unfold nS at h
    rw [List.countP_cons] at h
    have hc : spc c = false := by
      cases hh : spc c with
      | false => rfl
      | true => rw [hh] at h; simp at h
    have ih := escS_same s (by unfold nS; omega)
    unfold escS at ih ⊢
    rw [List.flatMap_cons, ih, esc1_other hc]
    rfl

theorem nS_count : ∀ (s : List UInt8), nS s = s.count 10 + s.count 92 + s.count 34
  | [] => rfl
  | c :: s => by
    have ih := nS_count s
    unfold nS at ih ⊢
    rw [List.countP_cons, ih, List.count_cons, List.count_cons, List.count_cons]
    by_cases h1 : c = 34
    · subst h1; simp [spc]; omega
    · by_cases h2 : c = 92
      · subst h2; simp [spc]; omega
      · by_cases h3 : c = 10
        · subst h3; simp [spc]; omega
        · simp [spc, h1, h2, h3]

theorem nS_take {s : List UInt8} {i : Nat} {c : UInt8} (h : s[i]? = some c) : nS (s.take (i + 1)) = nS (s.take i) + (if spc c = true then 1 else 0) := by
  unfold nS
  rw [List.take_add_one, h, List.countP_append]
  simp [List.countP_cons]

theorem escS_take {s : List UInt8} {i : Nat} {c : UInt8} (h : s[i]? = some c) : escS (s.take (i + 1)) = escS (s.take i) ++ esc1 c := by
  unfold escS
  rw [List.take_add_one, h, List.flatMap_append]
  simp

theorem escS_take_le (s : List UInt8) (i : Nat) : (escS (s.take i)).length ≤ (escS s).length := by
  conv => rhs; rw [← List.take_append_drop i s]
  unfold escS
  rw [List.flatMap_append, List.length_append]
  omega

theorem count_spec (s : List UInt8) (c : UInt8) (h : Heap) : SpecR Tryz.prog 148 [.string ⟨⟨s⟩⟩, .string ⟨⟨[c]⟩⟩] h fun r h' => r = .int .i64 (s.count c) ∧ Own h [] h' := by
  refine ⟨⟨_, Tryz.func148, rfl, by kernel_rfl⟩, fun w hw => ?_⟩
  subst hw
  refine (Tryz.strings_Count_one ⟨⟨s⟩⟩ c w).mono ?_
  rintro e w' ⟨rfl, rfl⟩
  exact ⟨.refl _, rfl, Own.refl _⟩

/-- What the table says of a byte. -/
theorem tab_at {h : Heap} {v w x : Value} (hv : Arr h v (bytes [92, 110])) (hw : Arr h w (bytes [92, 92])) (hx : Arr h x (bytes [92, 34])) (c : UInt8) :
    (spc c = false ∧ repF v w x c.toNat = nilS) ∨ (spc c = true ∧ ∃ a cap, repF v w x c.toNat = .slice (some a) 2 cap ∧ Arr h (.slice (some a) 2 cap) (bytes (esc1 c))) := by
  have two : ∀ (v : Value) (l : List UInt8), l.length = 2 → Arr h v (bytes l) → ∃ a cap, v = .slice (some a) 2 cap ∧ Arr h (.slice (some a) 2 cap) (bytes l) := by
    intro v l hl hA
    obtain ⟨a, cap, rfl, hc, r⟩ := hA
    have hbl : (bytes l).length = 2 := by simp [bytes, hl]
    rw [hbl] at hc
    rcases r with r | ⟨b, o, rfl, hcell⟩
    · rw [r] at hbl; simp at hbl
    · refine ⟨_, cap, by rw [hbl], ?_⟩
      exact ⟨_, cap, by rw [hbl], by rw [hbl]; exact hc, .inr ⟨b, o, rfl, hcell⟩⟩
  have inj : ∀ {n : Nat}, c.toNat = n → c = UInt8.ofNat n := fun h => by rw [← h]; simp
  unfold repF putF
  by_cases h34 : c.toNat = 34
  · have e : c = 34 := inj h34
    subst e
    obtain ⟨a, cap, rfl, hA⟩ := two x [92, 34] rfl hx
    exact .inr ⟨by decide, a, cap, by rw [if_pos h34], hA⟩
  · by_cases h92 : c.toNat = 92
    · have e : c = 92 := inj h92
      subst e
      obtain ⟨a, cap, rfl, hA⟩ := two w [92, 92] rfl hw
      exact .inr ⟨by decide, a, cap, by rw [if_neg h34, if_pos h92], hA⟩
    · by_cases h10 : c.toNat = 10
      · have e : c = 10 := inj h10
        subst e
        obtain ⟨a, cap, rfl, hA⟩ := two v [92, 110] rfl hv
        exact .inr ⟨by decide, a, cap, by rw [if_neg h34, if_neg h92, if_pos h10], hA⟩
      · refine .inl ⟨?_, by rw [if_neg h34, if_neg h92, if_neg h10]⟩
        unfold spc
        refine decide_eq_false ?_
        rintro (rfl | rfl | rfl)
        · exact h34 rfl
        · exact h92 rfl
        · exact h10 rfl

abbrev zB : Value := .int .u8 0

theorem fillSet (A : List UInt8) (c : UInt8) (N : Nat) (h : A.length < N) : (bytes A ++ List.replicate (N - A.length) zB).set A.length (.int .u8 c.toNat) = bytes (A ++ [c]) ++ List.replicate (N - (A ++ [c]).length) zB := by
  obtain ⟨m, hm⟩ : ∃ m, N - A.length = m + 1 := ⟨N - A.length - 1, by omega⟩
  have hm2 : N - (A ++ [c]).length = m := by simp; omega
  have hl : (bytes A).length = A.length := by simp [bytes]
  rw [hm, hm2, List.replicate_succ, ← hl, List.set_append_right _ _ (Nat.le_refl _), Nat.sub_self]
  simp [bytes]

theorem fillCopy (A B : List UInt8) (N : Nat) (_h : A.length + B.length ≤ N) :
    (bytes A ++ List.replicate (N - A.length) zB).take A.length ++ bytes B ++ (bytes A ++ List.replicate (N - A.length) zB).drop (A.length + B.length) = bytes (A ++ B) ++ List.replicate (N - (A ++ B).length) zB := by
  have hl : (bytes A).length = A.length := by simp [bytes]
  rw [← hl, List.take_left, List.drop_append, List.drop_of_length_le (by omega), hl, List.nil_append, Nat.add_sub_cancel_left, List.drop_replicate, List.length_append, Nat.sub_sub]
  simp [bytes]

set_option maxHeartbeats 8000000 in
set_option maxRecDepth 100000 in
theorem brReplace_spec (rb : Nat) (t v w x : Value) (s : List UInt8) (h : Heap) (hl : s.length ≤ 1000000) (ct : cellAt h ⟨rb, 0 + 256, none⟩ = some t) (hc : ∀ i, i < 256 → cellAt h ⟨rb, i, none⟩ = some (repF v w x i))
    (hT : Arr h t [strV [10], strV [92], strV [34]]) (hv : Arr h v (bytes [92, 110])) (hw : Arr h w (bytes [92, 92])) (hx : Arr h x (bytes [92, 34])) :
    SpecR Tryz.prog 146 [pA rb 0, .string ⟨⟨s⟩⟩] h fun r h' => r = .string ⟨⟨escS s⟩⟩ ∧ Own h [] h' := by
  obtain ⟨at_, tc, rfl, htc, -⟩ := id hT
  have hT2 : Arr h (.slice at_ 3 tc) [strV [10], strV [92], strV [34]] := hT
  have o0 := Own.refl h
  have hnle : nS s ≤ s.length := List.countP_le_length
  have hcs : ∀ c : UInt8, cellAt h ⟨rb, 0 + 0 + ((c.toNat : Nat) : Int).toNat * 1, none⟩ = some (repF v w x c.toNat) := fun c => by
    rw [show 0 + 0 + ((c.toNat : Nat) : Int).toNat * 1 = c.toNat by simp]
    exact hc _ c.toNat_lt
  have hsp : ∀ c : UInt8, spc c = true → ∃ a cap, cellAt h ⟨rb, 0 + 0 + ((c.toNat : Nat) : Int).toNat * 1, none⟩ = some (.slice (some a) 2 cap) := fun c hc => by
    rcases tab_at hv hw hx c with ⟨h1, _⟩ | ⟨_, a, cap, he, _⟩
    · rw [hc] at h1; cases h1
    · exact ⟨a, cap, by rw [hcs, he]⟩
  have hl3 : [strV [10], strV [92], strV [34]].length = 3 := rfl
  have hns := nS_count s
  refine Spec.enter Tryz.func146 rfl Tryz.ntmps146 (by kernel_rfl) ?_
  refine StillVC.run (StillVC.lenS rfl str9 ?_)
  refine StillVC.run (StillVC.nilCheck rfl ?_)
  refine StillVC.run (StillVC.fieldAddr st120 rfl rfl rfl ?_)
  refine StillVC.run (StillVC.load1 ty75 rfl (by assumption) ?_)
  refine StillVC.run (StillVC.lenV rfl sl75 ?_)
  refine Ar.i64 (by omega) (by omega) ?_
  refine StillVC.run (StillVC.lenS rfl str9 ?_)
  refine Br.join [5, 6, 8, 9, 10, 11, 27, 28, 29, 30, 31, 32, 33, 34, 35, 36, 37, 38, 39, 40, 41, 42, 43, 44, 45, 46, 47, 48, 49, 50, 51, 52, 53, 54, 55, 56, 57, 58, 59, 60, 61, 62, 63, 64, 65, 66, 67, 68, 69, 70, 71, 72, 73, 74, 75, 76, 77, 78, 79, 80] [5, 6] (fun vs hh => vs = [.int .i64 (s.length + nS s : Nat), .bool (decide (nS s ≠ 0))] ∧ Own h [] hh) rfl rfl ?_ ?_
  · by_cases hlong : 24 ≤ s.length
    · refine Br.dec (fun c20 => ?_) (fun hc => absurd (by omega) hc)
      refine StillVC.run (StillVC.nilCheck rfl ?_)
      refine StillVC.run (StillVC.fieldAddr st120 rfl rfl rfl ?_)
      refine StillVC.run (StillVC.load1 ty75 rfl (by assumption) ?_)
      refine StillVC.run (StillVC.lenV rfl sl75 ?_)
      refine LoopVC.intro [5, 6, 8, 9, 32, 33, 34, 35, 36, 37, 38, 39, 40, 41, 42, 43, 44, 45, 46, 47, 48, 49, 50, 51, 52, 53, 54] [5, 6, 32] (fun vs hh => ∃ (q n : Nat), vs = [.int .i64 (s.length + n : Nat), .bool (decide (n ≠ 0)), .int .i64 q] ∧ (q = 0 ∧ n = 0 ∨ q = 1 ∧ n = s.count 10 ∨ q = 2 ∧ n = s.count 10 + s.count 92 ∨ q = 3 ∧ n = s.count 10 + s.count 92 + s.count 34) ∧ Own h [] hh) (fun vs _ => match vs with | [_, _, .int _ q] => 3 - q.toNat | _ => 0) ?_ ?_
      · exact ⟨0, 0, rfl, .inl ⟨rfl, rfl⟩, o0⟩
      · rintro vs junk hh ⟨q, n, rfl, hq, oh⟩
        rcases hq with ⟨rfl, rfl⟩ | ⟨rfl, rfl⟩ | ⟨rfl, rfl⟩ | ⟨rfl, rfl⟩
        · have p1 : ([10] : List UInt8)[(0 : Int).toNat]? = some 10 := rfl
          have p2 : UInt8.toNat 10 = 10 := rfl
          obtain ⟨ga, gc, hcell⟩ := hsp 10 (by decide)
          refine Br.tt ?_
          refine StillVC.run (StillVC.idx sl75 ty9 (hT2.ext oh.ext) rfl (by omega) (by omega) ?_)
          refine StillVC.run (StillVC.loadA (hT2.ext oh.ext) ty9 rfl (by first | assumption | rfl) ?_)
          refine CallVC.ret (count_spec s 10 _) ?_
          rintro _ h2 ⟨rfl, ob⟩
          have o2 := oh.ext' ob
          have hcl : s.count 10 ≤ s.length := List.count_le_length
          by_cases hc0 : s.count 10 = 0
          · refine Br.ndec (fun hc => absurd (by first | omega | assumption | decide | exact rfl) hc) (fun c35 => ?_)
            refine Ar.i64 (by omega) (by omega) ?_
            refine ⟨rfl, ?_⟩
            refine ⟨⟨1, s.count 10, by simp [hc0], by simp [hc0], o2⟩, by simp⟩
          · refine Br.ndec (fun c40 => ?_) (fun hc => absurd hc (by first | omega | assumption | decide | exact rfl))
            refine DrawVC.intro [0, 1, 2, 3, 4, 5, 6, 7, 9, 10, 11, 12, 13] [8] [] [0, 1, 2, 3, 4, 5, 6, 7, 8, 9, 10, 11, 12, 13] mixed (by kernel_rfl) rfl (fun _ _ _ _ h => h) ?_
            refine StillVC.strIdx rfl rfl str9 (by omega) (by assumption) ?_
            refine StillVC.nilCheck rfl ?_
            refine StillVC.fieldAddr st120 rfl rfl rfl ?_
            refine StillVC.idxArr arr118.arr arr118.el rfl rfl (by omega) (by omega) ?_
            refine StillVC.load1 ty69 rfl (o2.old hcell) ?_
            refine StillVC.lenV rfl sl69 ?_
            refine Ar.i64 (by omega) (by omega) ?_
            refine Ar.i64 (by omega) (by omega) ?_
            refine Ar.i64 (by omega) (by omega) ?_
            refine Ar.i64 (by omega) (by omega) ?_
            refine ⟨rfl, ?_⟩
            refine ⟨⟨1, s.count 10, ?_, by simp, o2⟩, by simp⟩
            have hne : s.count 10 ≠ 0 := by omega
            simp only [List.cons.injEq, and_true, Value.int.injEq, true_and, Value.bool.injEq]
            exact ⟨by omega, (decide_eq_true hne).symm, rfl⟩
        · have p1 : ([92] : List UInt8)[(0 : Int).toNat]? = some 92 := rfl
          have p2 : UInt8.toNat 92 = 92 := rfl
          obtain ⟨ga, gc, hcell⟩ := hsp 92 (by decide)
          refine Br.tt ?_
          refine StillVC.run (StillVC.idx sl75 ty9 (hT2.ext oh.ext) rfl (by omega) (by omega) ?_)
          refine StillVC.run (StillVC.loadA (hT2.ext oh.ext) ty9 rfl (by first | assumption | rfl) ?_)
          refine CallVC.ret (count_spec s 92 _) ?_
          rintro _ h2 ⟨rfl, ob⟩
          have o2 := oh.ext' ob
          have hcl : s.count 92 ≤ s.length := List.count_le_length
          by_cases hc0 : s.count 92 = 0
          · refine Br.ndec (fun hc => absurd (by first | omega | assumption | decide | exact rfl) hc) (fun c65 => ?_)
            refine Ar.i64 (by omega) (by omega) ?_
            refine ⟨rfl, ?_⟩
            refine ⟨⟨2, s.count 10 + s.count 92, by simp [hc0], by simp [hc0], o2⟩, by simp⟩
          · refine Br.ndec (fun c70 => ?_) (fun hc => absurd hc (by first | omega | assumption | decide | exact rfl))
            refine DrawVC.intro [0, 1, 2, 3, 4, 5, 6, 7, 9, 10, 11, 12, 13] [8] [] [0, 1, 2, 3, 4, 5, 6, 7, 8, 9, 10, 11, 12, 13] mixed (by kernel_rfl) rfl (fun _ _ _ _ h => h) ?_
            refine StillVC.strIdx rfl rfl str9 (by omega) (by assumption) ?_
            refine StillVC.nilCheck rfl ?_
            refine StillVC.fieldAddr st120 rfl rfl rfl ?_
            refine StillVC.idxArr arr118.arr arr118.el rfl rfl (by omega) (by omega) ?_
            refine StillVC.load1 ty69 rfl (o2.old hcell) ?_
            refine StillVC.lenV rfl sl69 ?_
            refine Ar.i64 (by omega) (by omega) ?_
            refine Ar.i64 (by omega) (by omega) ?_
            refine Ar.i64 (by omega) (by omega) ?_
            refine Ar.i64 (by omega) (by omega) ?_
            refine ⟨rfl, ?_⟩
            refine ⟨⟨2, s.count 10 + s.count 92, ?_, by simp, o2⟩, by simp⟩
            have hne : s.count 10 + s.count 92 ≠ 0 := by omega
            simp only [List.cons.injEq, and_true, Value.int.injEq, true_and, Value.bool.injEq]
            exact ⟨by omega, (decide_eq_true hne).symm, rfl⟩
        · have p1 : ([34] : List UInt8)[(0 : Int).toNat]? = some 34 := rfl
          have p2 : UInt8.toNat 34 = 34 := rfl
          obtain ⟨ga, gc, hcell⟩ := hsp 34 (by decide)
          refine Br.tt ?_
          refine StillVC.run (StillVC.idx sl75 ty9 (hT2.ext oh.ext) rfl (by omega) (by omega) ?_)
          refine StillVC.run (StillVC.loadA (hT2.ext oh.ext) ty9 rfl (by first | assumption | rfl) ?_)
          refine CallVC.ret (count_spec s 34 _) ?_
          rintro _ h2 ⟨rfl, ob⟩
          have o2 := oh.ext' ob
          have hcl : s.count 34 ≤ s.length := List.count_le_length
          by_cases hc0 : s.count 34 = 0
          · refine Br.ndec (fun hc => absurd (by first | omega | assumption | decide | exact rfl) hc) (fun c95 => ?_)
            refine Ar.i64 (by omega) (by omega) ?_
            refine ⟨rfl, ?_⟩
            refine ⟨⟨3, s.count 10 + s.count 92 + s.count 34, by simp [hc0], by simp [hc0], o2⟩, by simp⟩
          · refine Br.ndec (fun c100 => ?_) (fun hc => absurd hc (by first | omega | assumption | decide | exact rfl))
            refine DrawVC.intro [0, 1, 2, 3, 4, 5, 6, 7, 9, 10, 11, 12, 13] [8] [] [0, 1, 2, 3, 4, 5, 6, 7, 8, 9, 10, 11, 12, 13] mixed (by kernel_rfl) rfl (fun _ _ _ _ h => h) ?_
            refine StillVC.strIdx rfl rfl str9 (by omega) (by assumption) ?_
            refine StillVC.nilCheck rfl ?_
            refine StillVC.fieldAddr st120 rfl rfl rfl ?_
            refine StillVC.idxArr arr118.arr arr118.el rfl rfl (by omega) (by omega) ?_
            refine StillVC.load1 ty69 rfl (o2.old hcell) ?_
            refine StillVC.lenV rfl sl69 ?_
            refine Ar.i64 (by omega) (by omega) ?_
            refine Ar.i64 (by omega) (by omega) ?_
            refine Ar.i64 (by omega) (by omega) ?_
            refine Ar.i64 (by omega) (by omega) ?_
            refine ⟨rfl, ?_⟩
            refine ⟨⟨3, s.count 10 + s.count 92 + s.count 34, ?_, by simp, o2⟩, by simp⟩
            have hne : s.count 10 + s.count 92 + s.count 34 ≠ 0 := by omega
            simp only [List.cons.injEq, and_true, Value.int.injEq, true_and, Value.bool.injEq]
            exact ⟨by omega, (decide_eq_true hne).symm, rfl⟩
        · refine Br.ff ?_
          refine ⟨rfl, ?_⟩
          exact ⟨by rw [nS_count], oh⟩
    · refine Br.dec (fun hc => absurd hc (by omega)) (fun c120 => ?_)
      refine LoopVC.intro [5, 6, 10, 11, 55, 56, 57, 58, 59, 60, 61, 62, 63, 64, 65, 66, 67, 68, 69, 70, 71, 72, 73, 74, 75, 76, 77, 78, 79, 80] [5, 6, 10] (fun vs hh => ∃ (i : Nat), i ≤ s.length ∧ vs = [.int .i64 (s.length + nS (s.take i) : Nat), .bool (decide (nS (s.take i) ≠ 0)), .int .i64 i] ∧ Own h [] hh) (fun vs _ => match vs with | [_, _, .int _ i] => s.length - i.toNat | _ => 0) ?_ ?_
      · exact ⟨0, by omega, rfl, o0⟩
      · rintro vs junk hh ⟨i, hi, rfl, oh⟩
        have hnl : nS (s.take i) ≤ s.length := Nat.le_trans List.countP_le_length (by simp; omega)
        by_cases hlt : i < s.length
        · obtain ⟨c, hcx⟩ := getx hlt
          have hn1 := nS_take hcx
          rcases tab_at hv hw hx c with ⟨hf, he⟩ | ⟨hf, ga, gc, he, _⟩
          · have hcell := hcs c
            rw [he] at hcell
            have hc256 := c.toNat_lt
            rw [hf] at hn1
            simp only [Bool.false_eq_true, if_false, Nat.add_zero] at hn1
            refine StillVC.run (StillVC.lenS rfl str9 ?_)
            refine Br.dec (fun c131 => ?_) (fun hc => absurd (by omega) hc)
            refine StillVC.run (StillVC.strIdx rfl rfl str9 (by omega) (by assumption) ?_)
            refine StillVC.run (StillVC.nilCheck rfl ?_)
            refine StillVC.run (StillVC.fieldAddr st120 rfl rfl rfl ?_)
            refine StillVC.run (StillVC.idxArr arr118.arr arr118.el rfl rfl (by omega) (by omega) ?_)
            refine StillVC.run (StillVC.load1 ty69 rfl (oh.old hcell) ?_)
            refine StillVC.run (StillVC.neNil sl69 rfl rfl ?_)
            refine Br.ff ?_
            refine Ar.i64 (by omega) (by omega) ?_
            refine ⟨rfl, ?_⟩
            exact ⟨⟨i + 1, by omega, by rw [hn1]; rfl, oh⟩, by simp; omega⟩
          · have hcell := hcs c
            rw [he] at hcell
            have hc256 := c.toNat_lt
            rw [hf] at hn1
            simp only [if_true] at hn1
            refine StillVC.run (StillVC.lenS rfl str9 ?_)
            refine Br.dec (fun c151 => ?_) (fun hc => absurd (by omega) hc)
            refine StillVC.run (StillVC.strIdx rfl rfl str9 (by omega) (by assumption) ?_)
            refine StillVC.run (StillVC.nilCheck rfl ?_)
            refine StillVC.run (StillVC.fieldAddr st120 rfl rfl rfl ?_)
            refine StillVC.run (StillVC.idxArr arr118.arr arr118.el rfl rfl (by omega) (by omega) ?_)
            refine StillVC.run (StillVC.load1 ty69 rfl (oh.old hcell) ?_)
            refine StillVC.run (StillVC.neNil sl69 rfl rfl ?_)
            refine Br.ttE (by first | omega | (simp; done)) ?_
            refine StillVC.run (StillVC.nilCheck rfl ?_)
            refine StillVC.run (StillVC.fieldAddr st120 rfl rfl rfl ?_)
            refine StillVC.run (StillVC.idxArr arr118.arr arr118.el rfl rfl (by omega) (by omega) ?_)
            refine StillVC.run (StillVC.load1 ty69 rfl (oh.old hcell) ?_)
            refine StillVC.run (StillVC.lenV rfl sl69 ?_)
            refine Ar.i64 (by omega) (by omega) ?_
            refine Ar.i64 (by omega) (by omega) ?_
            refine Ar.i64 (by omega) (by omega) ?_
            refine ⟨rfl, ?_⟩
            refine ⟨⟨i + 1, by omega, ?_, oh⟩, by simp; omega⟩
            rw [hn1]
            simp only [List.cons.injEq, and_true, Value.int.injEq, true_and, Value.bool.injEq]
            exact ⟨by omega, (decide_eq_true (by omega)).symm, rfl⟩
        · have e1 : s.take i = s := List.take_of_length_le (by omega)
          rw [e1]
          refine StillVC.run (StillVC.lenS rfl str9 ?_)
          refine Br.dec (fun hc => absurd hc (by omega)) (fun c181 => ?_)
          refine ⟨rfl, ?_⟩
          exact ⟨rfl, oh⟩
  · rintro vs junk hh ⟨rfl, oh⟩
    by_cases hz : nS s = 0
    · rw [escS_same s hz]
      refine Br.ndec (fun c220 => ?_) (fun hc => absurd hc (by first | omega | assumption | decide | exact rfl))
      refine RetVC.one rfl ?_
      exact ⟨rfl, oh⟩
    · refine Br.ndec (fun hc => absurd (by first | omega | assumption | decide | exact rfl) hc) (fun c240 => ?_)
      (refine RunVC.make oh sl69 ty5 rfl rfl (by omega) (by omega) (by omega) ?_; intro b241 m241 o241)
      have hel := escS_len s
      refine LoopVC.intro [13, 14, 15, 86, 87, 88, 89, 90, 91, 92, 93, 94, 95, 96, 97, 98, 99, 100, 101, 102, 103, 104, 105, 106, 107, 108, 109, 110, 111, 112, 113, 114, 115, 116, 117, 118, 119] [13, 14] (fun vs hh => ∃ (i : Nat), i ≤ s.length ∧ vs = [.int .i64 ((escS (s.take i)).length : Nat), .int .i64 i] ∧ Own h [box b241 (bytes (escS (s.take i)) ++ List.replicate (s.length + nS s - (escS (s.take i)).length) (.int .u8 0)) 5] hh) (fun vs _ => match vs with | [_, .int _ i] => s.length - i.toNat | _ => 0) ?_ ?_
      · rw [Int.toNat_natCast] at o241
        exact ⟨0, by omega, rfl, by simpa [escS, bytes] using o241⟩
      · rintro vs junk h3 ⟨i, hi, rfl, o3⟩
        have hle := escS_take_le s i
        have hbl : (bytes (escS (s.take i))).length = (escS (s.take i)).length := by simp [bytes]
        by_cases hlt : i < s.length
        · obtain ⟨c, hcx⟩ := getx hlt
          have ht1 := escS_take hcx
          have hle1 := escS_take_le s (i + 1)
          have hc256 := c.toNat_lt
          rw [ht1, List.length_append] at hle1
          rcases tab_at hv hw hx c with ⟨hf, he⟩ | ⟨hf, ga, gc, he, hA⟩
          · have hcell := hcs c
            rw [he] at hcell
            have hl1 : (esc1 c).length = 1 := by rw [esc1_other hf]; rfl
            generalize hoff : (escS (s.take i)).length = off at *
            refine StillVC.run (StillVC.lenS rfl str9 ?_)
            refine Br.dec (fun c251 => ?_) (fun hc => absurd (by omega) hc)
            refine StillVC.run (StillVC.strIdx rfl rfl str9 (by omega) (by assumption) ?_)
            refine StillVC.run (StillVC.nilCheck rfl ?_)
            refine StillVC.run (StillVC.fieldAddr st120 rfl rfl rfl ?_)
            refine StillVC.run (StillVC.idxArr arr118.arr arr118.el rfl rfl (by omega) (by omega) ?_)
            refine StillVC.run (StillVC.load1 ty69 rfl (o3.old hcell) ?_)
            refine StillVC.run (StillVC.neNil sl69 rfl rfl ?_)
            refine Br.ff ?_
            refine StillVC.run (StillVC.idxB o3 0 rfl sl69 ty5 rfl rfl (by omega) (by first | omega | (simp; omega)) ?_)
            (refine RunVC.store o3 0 rfl ty5 rfl (by first | omega | (simp; omega)) (And.intro ⟨rfl, rfl⟩ ?_); intro m259 o259)
            refine Ar.i64 (by omega) (by omega) ?_
            refine Ar.i64 (by omega) (by omega) ?_
            refine ⟨rfl, ?_⟩
            refine ⟨⟨i + 1, by omega, by rw [ht1, List.length_append, hl1, hoff]; rfl, ?_⟩, by simp; omega⟩
            have hfill := fillSet (escS (s.take i)) c (s.length + nS s) (by omega)
            rw [hoff] at hfill
            rw [ht1, esc1_other hf, ← hfill]
            assumption
          · have hcell := hcs c
            rw [he] at hcell
            have hl2 : (esc1 c).length = 2 := by rw [esc1_len, hf]; rfl
            generalize hoff : (escS (s.take i)).length = off at *
            have hbl2 : (bytes (esc1 c)).length = 2 := by simp [bytes, hl2]
            refine StillVC.run (StillVC.lenS rfl str9 ?_)
            refine Br.dec (fun c301 => ?_) (fun hc => absurd (by omega) hc)
            refine StillVC.run (StillVC.strIdx rfl rfl str9 (by omega) (by assumption) ?_)
            refine StillVC.run (StillVC.nilCheck rfl ?_)
            refine StillVC.run (StillVC.fieldAddr st120 rfl rfl rfl ?_)
            refine StillVC.run (StillVC.idxArr arr118.arr arr118.el rfl rfl (by omega) (by omega) ?_)
            refine StillVC.run (StillVC.load1 ty69 rfl (o3.old hcell) ?_)
            refine StillVC.run (StillVC.neNil sl69 rfl rfl ?_)
            refine Br.ttE (by first | omega | (simp; done)) ?_
            refine DrawVC.intro [0, 1, 2, 3, 4, 5, 6, 7, 8, 11, 12] [9] [10] [0, 1, 2, 3, 4, 5, 6, 7, 8, 9, 10, 11, 12] mixed (by kernel_rfl) rfl (fun _ _ _ _ h => h) ?_
            refine StillVC.sliceFB sl69 ty5 rfl rfl (by omega) (by omega) (by omega) ?_
            refine StillVC.nilCheck rfl ?_
            refine StillVC.fieldAddr st120 rfl rfl rfl ?_
            refine StillVC.idxArr arr118.arr arr118.el rfl rfl (by omega) (by omega) ?_
            refine StillVC.load1 ty69 rfl (o3.old hcell) ?_
            (refine RunVC.copyB o3 0 rfl sl69 ty5 rfl (hA.ext o3.ext) (by first | omega | (simp; done) | (simp; omega)) (by first | omega | (simp; omega)) (by first | omega | (simp; omega)) (by simp [Value.oneCell']) ?_; intro m314 o314)
            refine Ar.i64 (by omega) (by omega) ?_
            refine Ar.i64 (by omega) (by omega) ?_
            refine ⟨rfl, ?_⟩
            refine ⟨⟨i + 1, by omega, by rw [ht1, List.length_append, hl2, hbl2, hoff]; rfl, ?_⟩, by simp; omega⟩
            have hfill := fillCopy (escS (s.take i)) (esc1 c) (s.length + nS s) (by omega)
            rw [hoff, hl2] at hfill
            rw [ht1, ← hfill]
            rw [hbl2] at *
            assumption
        · have e1 : s.take i = s := List.take_of_length_le (by omega)
          rw [e1, hel, Nat.sub_self, List.replicate_zero, List.append_nil] at o3
          refine StillVC.run (StillVC.lenS rfl str9 ?_)
          refine Br.dec (fun hc => absurd hc (by omega)) (fun c351 => ?_)
          refine StillVC.run (StillVC.bytesStr (l := escS s) (Own.boxArr o3 0 rfl (by rw [Int.toNat_natCast]; simp [bytes, hel]) (Nat.le_refl _)) sl69 int5 str9 ?_)
          refine RetVC.one rfl ?_
          exact ⟨rfl, o3.sel [] rfl⟩

/-- What the built replacer consists of. -/
def RepF (cs2 : List Value) (L2 : List Item) : Prop := ∃ rb cs t v w x, RepC cs t (repF v w x) ∧ cs2 = [.int .u32 0, .int .i32 1, .int .u32 0, .iface 121 (pA rb 0), nilS] ∧
  L2 = [box rb cs 120, row t 9 1 3 [strV [10], strV [92], strV [34]], ro v (bytes [92, 110]), ro w (bytes [92, 92]), ro x (bytes [92, 34])]

set_option maxHeartbeats 8000000 in
set_option maxRecDepth 100000 in
theorem replace_spec (b : Nat) (a : Option Addr) (c : Nat) (B : Base) (s : List UInt8) (h : Heap) (hl : s.length ≤ 1000000)
    (o0 : Own B [box b (repCells a c) 91, row (.slice a 6 c) 9 1 6 oldNew] h) :
    SpecR Tryz.prog 39 [pA b 0, .string ⟨⟨s⟩⟩] h fun r h' => r = .string ⟨⟨escS s⟩⟩ ∧ Own B [] h' := by
  refine Spec.enter Tryz.func39 rfl Tryz.ntmps39 (by kernel_rfl) ?_
  refine StillVC.run (StillVC.nilCheck rfl ?_)
  refine StillVC.run (StillVC.fieldAddr st91 rfl rfl rfl ?_)
  refine StillVC.run (StillVC.makeFn ?_)
  refine CallVC.ret (do_spec ⟨B.h, [row (.slice a 6 c) 9 1 6 oldNew] ++ B.T⟩ b (repCells a c) (RepF) 91 50 [pA b 0] [] _ (o0.lend [0] [1] rfl) rfl rfl ?_) ?_
  · intro h' o'
    refine (buildOnce_spec B b (.int .u32 0) (.int .i32 1) (.int .u32 0) .nilIface a c h' o').mono ?_
    rintro _ h2 ⟨rfl, rb, cs, t, v, w, x, hR, o2⟩
    exact ⟨rfl, _, _, ⟨rb, cs, t, v, w, x, hR, rfl, rfl⟩, rfl, rfl, o2.lend [0, 2, 3, 4, 5, 6] [1] rfl⟩
  · rintro _ h1 ⟨rfl, _, _, ⟨rb, cs, t, v, w, x, hR, rfl, rfl⟩, o1⟩
    have o1' : Own ⟨B.h, [row (.slice a 6 c) 9 1 6 oldNew] ++ B.T⟩ [box b [.int .u32 1, .int .i32 0, .int .u32 0, .iface 121 (pA rb 0), nilS] 91, box rb cs 120, row t 9 1 3 [strV [10], strV [92], strV [34]], ro v (bytes [92, 110]), ro w (bytes [92, 92]), ro x (bytes [92, 34])] h1 := o1
    clear o1
    refine StillVC.run (StillVC.nilCheck rfl ?_)
    refine StillVC.run (StillVC.fieldAddr st91 rfl rfl rfl ?_)
    refine StillVC.run (StillVC.loadO o1' 0 rfl ty89 rfl rfl ?_)
    refine RunVC.invokeR (g := 146) (full := [pA rb 0, .string ⟨⟨s⟩⟩]) rfl (fun w => by kernel_rfl) (brReplace_spec rb t v w x s _ hl ?_ ?_ (o1'.rowArr 2 rfl) (o1'.roArr 3 rfl) (o1'.roArr 4 rfl) (o1'.roArr 5 rfl)) ?_
    · exact (o1'.cellB 1 rfl _).trans hR.last
    · exact fun i hi => (o1'.cellB 1 rfl _).trans (hR.at_ i hi)
    · rintro _ h2 ⟨rfl, o2⟩
      refine RetVC.one rfl ?_
      refine ⟨rfl, ?_⟩
      have o3 := (o1'.sel [] rfl).ext' o2
      exact Own.sel (L := [row (.slice a 6 c) 9 1 6 oldNew]) o3 [] rfl

end Go.Proofs.YtffpaippmfafjaaGreatDoor
