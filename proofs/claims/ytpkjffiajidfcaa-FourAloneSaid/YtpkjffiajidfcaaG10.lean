/- The plain law of four buffers: a list of words, a write and a read that step through it in any order (no program in sight). -/
import Derived.Test.YtpkjffiajidfcaaG1
import Derived.Test.YtpkjffiajidfcaaG9
set_option linter.all false
set_option linter.unusedVariables false
set_option linter.unusedSimpArgs false

namespace Go.Proofs.Ytpkjffiajidfcaa


def Bit (p : Int) : Prop := p = 0 ∨ p = 1

structure Core (lat rdg : Int) (slot : Int → Int) (st : Nat) (wp wi : Int) (rs : Nat) (rp ri : Int) : Prop where
  lat01 : Bit lat
  rdg01 : Bit rdg
  slot01 : ∀ p, Bit p → Bit (slot p)
  wp01 : Bit wp
  wi01 : Bit wi
  rp01 : Bit rp
  ri01 : Bit ri
  stl : st ≤ 7
  rsl : rs ≤ 6
  A : 1 ≤ st → st ≤ 6 → wp = rdg → lat = wp
  I : 2 ≤ st → st ≤ 5 → wi = 1 - slot wp
  B : rs = 1 → rdg ≠ rp → lat = rp
  D : 2 ≤ rs → rs ≤ 5 → rdg = rp
  C : 3 ≤ rs → rs ≤ 5 → 1 ≤ st → st ≤ 5 → wp = rp → ri = slot rp

theorem Core.apart {lat rdg : Int} {slot : Int → Int} {st : Nat} {wp wi : Int} {rs : Nat} {rp ri : Int} (h : Core lat rdg slot st wp wi rs rp ri) (h1 : 2 ≤ st) (h2 : st ≤ 5) (h3 : 3 ≤ rs) (h4 : rs ≤ 5) : ¬ (rp = wp ∧ ri = wi) := by
  rintro ⟨rfl, rfl⟩
  have := h.I h1 h2
  have := h.C h3 h4 (by omega) h2 rfl
  omega

section
variable {lat rdg : Int} {slot slot' : Int → Int} {wp wi : Int} {st rs : Nat} {rp ri x : Int}

theorem Core.begin (h : Core lat rdg slot 7 wp wi rs rp ri) : Core lat rdg slot 0 0 0 rs rp ri :=
  { lat01 := h.lat01, rdg01 := h.rdg01, slot01 := h.slot01, wp01 := .inl rfl, wi01 := .inl rfl, rp01 := h.rp01, ri01 := h.ri01, stl := by omega, rsl := h.rsl, A := by omega, I := by omega, B := h.B, D := h.D, C := by omega }

theorem Core.choose (h : Core lat rdg slot 0 wp wi rs rp ri) (e : x = 1 - rdg % 2) : Core lat rdg slot 1 x wi rs rp ri := by
  subst e
  obtain ⟨h1, h2, h3, h4, h5, h6, h7, hs, hr, A, I, B, D, C⟩ := h
  unfold Bit at *
  exact { lat01 := h1, rdg01 := h2, slot01 := h3, wp01 := by unfold Bit; omega, wi01 := h5, rp01 := h6, ri01 := h7, stl := by omega, rsl := hr, A := by omega, I := by omega, B := B, D := D, C := by intro a b _ _ e; have := D (by omega) b; omega }

theorem Core.other (h : Core lat rdg slot 1 wp wi rs rp ri) (e : x = 1 - slot wp % 2) : Core lat rdg slot 2 wp x rs rp ri := by
  subst e
  obtain ⟨h1, h2, h3, h4, h5, h6, h7, hs, hr, A, I, B, D, C⟩ := h
  have h8 := h3 _ h4
  unfold Bit at h8
  exact { lat01 := h1, rdg01 := h2, slot01 := h3, wp01 := h4, wi01 := by unfold Bit; omega, rp01 := h6, ri01 := h7, stl := by omega, rsl := hr, A := by intro _ _; exact A (by omega) (by omega), I := by omega, B := B, D := D, C := by intro a b _ _ e; exact C a b (by omega) (by omega) e }

theorem Core.fill (h : Core lat rdg slot st wp wi rs rp ri) (h2 : 2 ≤ st) (h3 : st ≤ 4) {st' : Nat} (h4 : 3 ≤ st') (h5 : st' ≤ 5) : Core lat rdg slot st' wp wi rs rp ri := by
  obtain ⟨g1, g2, g3, g4, g5, g6, g7, hs, hr, A, I, B, D, C⟩ := h
  exact { lat01 := g1, rdg01 := g2, slot01 := g3, wp01 := g4, wi01 := g5, rp01 := g6, ri01 := g7, stl := by omega, rsl := hr, A := by intro _ _; exact A (by omega) (by omega), I := by intro _ _; exact I (by omega) (by omega), B := B, D := D, C := by intro a b _ _ e; exact C a b (by omega) (by omega) e }

theorem Core.show (h : Core lat rdg slot 5 wp wi rs rp ri) (e : ∀ p, Bit p → slot' p = if p = wp then wi else slot p) : Core lat rdg slot' 6 wp wi rs rp ri := by
  obtain ⟨g1, g2, g3, g4, g5, g6, g7, hs, hr, A, I, B, D, C⟩ := h
  exact { lat01 := g1, rdg01 := g2, slot01 := by intro p hp; rw [e p hp]; split; exact g5; exact g3 p hp, wp01 := g4, wi01 := g5, rp01 := g6, ri01 := g7, stl := by omega, rsl := hr, A := by intro _ _; exact A (by omega) (by omega), I := by omega, B := B, D := D, C := by omega }

theorem Core.end (h : Core lat rdg slot 6 wp wi rs rp ri) : Core wp rdg slot 7 wp wi rs rp ri := by
  obtain ⟨g1, g2, g3, g4, g5, g6, g7, hs, hr, A, I, B, D, C⟩ := h
  unfold Bit at *
  exact { lat01 := g4, rdg01 := g2, slot01 := g3, wp01 := g4, wi01 := g5, rp01 := g6, ri01 := g7, stl := by omega, rsl := hr, A := by omega, I := by omega, B := by intro a b; have := B a b; have := A (by omega) (by omega); omega, D := D, C := by omega }

theorem Core.beginR (h : Core lat rdg slot st wp wi 6 rp ri) : Core lat rdg slot st wp wi 0 0 0 := by
  obtain ⟨g1, g2, g3, g4, g5, g6, g7, hs, hr, A, I, B, D, C⟩ := h
  exact { lat01 := g1, rdg01 := g2, slot01 := g3, wp01 := g4, wi01 := g5, rp01 := .inl rfl, ri01 := .inl rfl, stl := hs, rsl := by omega, A := A, I := I, B := by omega, D := by omega, C := by omega }

theorem Core.latest (h : Core lat rdg slot st wp wi 0 rp ri) (e : x = lat % 2) : Core lat rdg slot st wp wi 1 x ri := by
  subst e
  obtain ⟨g1, g2, g3, g4, g5, g6, g7, hs, hr, A, I, B, D, C⟩ := h
  unfold Bit at g1
  exact { lat01 := g1, rdg01 := g2, slot01 := g3, wp01 := g4, wi01 := g5, rp01 := by unfold Bit; omega, ri01 := g7, stl := hs, rsl := by omega, A := A, I := I, B := by omega, D := by omega, C := by omega }

theorem Core.tell (h : Core lat rdg slot st wp wi 1 rp ri) : Core lat rp slot st wp wi 2 rp ri := by
  obtain ⟨g1, g2, g3, g4, g5, g6, g7, hs, hr, A, I, B, D, C⟩ := h
  exact { lat01 := g1, rdg01 := g6, slot01 := g3, wp01 := g4, wi01 := g5, rp01 := g6, ri01 := g7, stl := hs, rsl := by omega, A := by intro a b e; by_cases c : rdg = rp; exact A a b (e.trans c.symm); exact (B rfl c).trans e.symm, I := I, B := by omega, D := by omega, C := by omega }

theorem Core.newer (h : Core lat rdg slot st wp wi 2 rp ri) (e : x = slot rp % 2) : Core lat rdg slot st wp wi 3 rp x := by
  subst e
  obtain ⟨g1, g2, g3, g4, g5, g6, g7, hs, hr, A, I, B, D, C⟩ := h
  have g8 := g3 _ g6
  unfold Bit at g8
  exact { lat01 := g1, rdg01 := g2, slot01 := g3, wp01 := g4, wi01 := g5, rp01 := g6, ri01 := by unfold Bit; omega, stl := hs, rsl := by omega, A := A, I := I, B := by omega, D := fun _ _ => D (by omega) (by omega), C := by omega }

theorem Core.look (h : Core lat rdg slot st wp wi rs rp ri) (h1 : 3 ≤ rs) (h2 : rs ≤ 5) {rs' : Nat} (h3 : 4 ≤ rs') (h4 : rs' ≤ 6) : Core lat rdg slot st wp wi rs' rp ri := by
  obtain ⟨g1, g2, g3, g4, g5, g6, g7, hs, hr, A, I, B, D, C⟩ := h
  exact { lat01 := g1, rdg01 := g2, slot01 := g3, wp01 := g4, wi01 := g5, rp01 := g6, ri01 := g7, stl := hs, rsl := by omega, A := A, I := I, B := by omega, D := fun _ _ => D (by omega) (by omega), C := fun _ _ a b c => C (by omega) (by omega) a b c }
end


/-- A buffer holds message v whole (0: none). -/
structure Holds (W : Int) (f : Int → Int) (v : Int) : Prop where
  v0 : 0 ≤ v
  none : v = 0 → f 0 = 0
  len : 1 ≤ v → f 0 = 1 + v % W
  words : 1 ≤ v → ∀ j, 0 ≤ j → j < 1 + v % W → f (2 + j) = v

structure Cont (W lat : Int) (slot : Int → Int) (buf : Int → Int → Int → Int) (val : Int → Int → Int) (st : Nat) (wp wi i : Int) (mk : Bool) (rs : Nat) (rp ri left : Int) (xs : List Int) (n written marked begun first last steps own : Int) : Prop where
  holds : ∀ p j, Bit p → Bit j → ¬ ((st = 3 ∨ st = 4) ∧ p = wp ∧ j = wi) → Holds W (buf p j) (val p j)
  part3 : st = 3 ∨ st = 4 → buf wp wi 0 = 1 + n % W
  part4 : st = 4 → ∀ j, 0 ≤ j → j < i → buf wp wi (2 + j) = n
  i0 : 0 ≤ i
  i3 : st ≤ 3 → i = 0
  i4 : st = 4 → i < 1 + n % W
  s5 : st = 5 → val wp wi = n
  s6 : st = 6 → val wp (slot wp) = n
  cur : val lat (slot lat) = marked
  le : ∀ p, Bit p → ¬ (st = 6 ∧ p = wp) → val p (slot p) ≤ marked
  cnt5 : st ≤ 5 → written = n - 1 ∧ marked = n - 1
  cnt6 : st = 6 → written = n - 1 ∧ (mk = true → marked = n) ∧ (mk = false → marked = n - 1)
  cnt7 : 7 ≤ st → written = n ∧ marked = n
  st3 : st ≤ 3 → steps = st
  st4 : st = 4 → steps = 4 + i
  st5 : st = 5 → steps = 5 + n % W
  st6 : st = 6 → steps = 6 + n % W
  n0 : 0 ≤ n
  n1 : st ≤ 6 → 1 ≤ n
  mkd : st = 6 → mk = true → lat = wp
  l0 : 0 ≤ last
  rA : rs ≤ 5 → 0 ≤ begun ∧ begun ≤ first ∧ first ≤ marked ∧ last ≤ first
  r6 : 6 ≤ rs → last ≤ marked
  r12 : rs = 1 ∨ rs = 2 → first ≤ val rp (slot rp)
  r3 : 3 ≤ rs → rs ≤ 5 → first ≤ val rp ri ∧ val rp ri ≤ marked
  r45 : rs = 4 ∨ rs = 5 → 1 ≤ val rp ri ∧ left = 1 + val rp ri % W
  x4 : rs ≤ 4 → xs = []
  x5 : rs = 5 → xs = List.replicate xs.length (val rp ri) ∧ (xs.length : Int) < left
  o4 : rs ≤ 4 → own = rs
  o5 : rs = 5 → own = 5 + xs.length

theorem Holds.congr {W : Int} {f g : Int → Int} {v : Int} (hW : 1 ≤ W) (h : Holds W f v) (e : ∀ j, 0 ≤ j → j < 2 + W → g j = f j) : Holds W g v :=
  ⟨h.v0, fun a => (e 0 (by omega) (by omega)).trans (h.none a), fun a => (e 0 (by omega) (by omega)).trans (h.len a), fun a j b c => (e _ (by omega) (by have := Int.emod_lt_of_pos v (show 0 < W by omega); omega)).trans (h.words a j b c)⟩

section
variable {W lat rdg : Int} {slot slot' : Int → Int} {buf buf' : Int → Int → Int → Int} {val : Int → Int → Int} {wp wi i : Int} {st rs : Nat} {mk : Bool} {rp ri left x : Int} {xs : List Int} {n written marked begun first last steps own : Int}

theorem Cont.begin (h : Cont W lat slot buf val 7 wp wi i mk rs rp ri left xs n written marked begun first last steps own) : Cont W lat slot buf val 0 0 0 0 false rs rp ri left xs (n + 1) written marked begun first last 0 own := by
  obtain ⟨holds, part3, part4, i0, i3, i4, s5, s6, cur, le, cnt5, cnt6, cnt7, st3, st4, st5, st6, n0, n1, mkd, l0, rA, r6, r12, r3, r45, x4, x5, o4, o5⟩ := h
  exact { holds := fun p j hp hj _ => holds p j hp hj (fun a => absurd a.1 (by decide)), part3 := fun a => absurd a (by decide), part4 := fun a => absurd a (by decide), i0 := Int.le_refl _, i3 := fun _ => rfl, i4 := fun a => absurd a (by decide), s5 := fun a => absurd a (by decide), s6 := fun a => absurd a (by decide), cur := cur, le := fun p hp _ => le p hp (fun a => absurd a.1 (by decide)), cnt5 := fun _ => (by have q0 := cnt7 (by decide); clear holds part3 part4 i0 i3 i4 s5 s6 cur le cnt5 cnt6 cnt7 st3 st4 st5 st6 n0 n1 mkd l0 rA r6 r12 r3 r45 x4 x5 o4 o5; omega), cnt6 := fun a => absurd a (by decide), cnt7 := fun a => absurd a (by decide), st3 := fun _ => rfl, st4 := fun a => absurd a (by decide), st5 := fun a => absurd a (by decide), st6 := fun a => absurd a (by decide), n0 := (by have q0 := n0; clear holds part3 part4 i0 i3 i4 s5 s6 cur le cnt5 cnt6 cnt7 st3 st4 st5 st6 n0 n1 mkd l0 rA r6 r12 r3 r45 x4 x5 o4 o5; omega), n1 := fun _ => (by have q0 := n0; clear holds part3 part4 i0 i3 i4 s5 s6 cur le cnt5 cnt6 cnt7 st3 st4 st5 st6 n0 n1 mkd l0 rA r6 r12 r3 r45 x4 x5 o4 o5; omega), mkd := fun a => absurd a (by decide), l0 := l0, rA := rA, r6 := r6, r12 := r12, r3 := r3, r45 := r45, x4 := x4, x5 := x5, o4 := o4, o5 := o5 }

theorem Cont.choose (h : Cont W lat slot buf val 0 wp wi i mk rs rp ri left xs n written marked begun first last steps own) : Cont W lat slot buf val 1 x wi i mk rs rp ri left xs n written marked begun first last (steps + 1) own := by
  obtain ⟨holds, part3, part4, i0, i3, i4, s5, s6, cur, le, cnt5, cnt6, cnt7, st3, st4, st5, st6, n0, n1, mkd, l0, rA, r6, r12, r3, r45, x4, x5, o4, o5⟩ := h
  exact { holds := fun p j hp hj _ => holds p j hp hj (fun a => absurd a.1 (by decide)), part3 := fun a => absurd a (by decide), part4 := fun a => absurd a (by decide), i0 := i0, i3 := fun _ => i3 (by decide), i4 := fun a => absurd a (by decide), s5 := fun a => absurd a (by decide), s6 := fun a => absurd a (by decide), cur := cur, le := fun p hp _ => le p hp (fun a => absurd a.1 (by decide)), cnt5 := fun _ => cnt5 (by decide), cnt6 := fun a => absurd a (by decide), cnt7 := fun a => absurd a (by decide), st3 := fun _ => (by have q0 := st3 (by decide); clear holds part3 part4 i0 i3 i4 s5 s6 cur le cnt5 cnt6 cnt7 st3 st4 st5 st6 n0 n1 mkd l0 rA r6 r12 r3 r45 x4 x5 o4 o5; omega), st4 := fun a => absurd a (by decide), st5 := fun a => absurd a (by decide), st6 := fun a => absurd a (by decide), n0 := n0, n1 := fun _ => n1 (by decide), mkd := fun a => absurd a (by decide), l0 := l0, rA := rA, r6 := r6, r12 := r12, r3 := r3, r45 := r45, x4 := x4, x5 := x5, o4 := o4, o5 := o5 }

theorem Cont.other (h : Cont W lat slot buf val 1 wp wi i mk rs rp ri left xs n written marked begun first last steps own) : Cont W lat slot buf val 2 wp x i mk rs rp ri left xs n written marked begun first last (steps + 1) own := by
  obtain ⟨holds, part3, part4, i0, i3, i4, s5, s6, cur, le, cnt5, cnt6, cnt7, st3, st4, st5, st6, n0, n1, mkd, l0, rA, r6, r12, r3, r45, x4, x5, o4, o5⟩ := h
  exact { holds := fun p j hp hj _ => holds p j hp hj (fun a => absurd a.1 (by decide)), part3 := fun a => absurd a (by decide), part4 := fun a => absurd a (by decide), i0 := i0, i3 := fun _ => i3 (by decide), i4 := fun a => absurd a (by decide), s5 := fun a => absurd a (by decide), s6 := fun a => absurd a (by decide), cur := cur, le := fun p hp _ => le p hp (fun a => absurd a.1 (by decide)), cnt5 := fun _ => cnt5 (by decide), cnt6 := fun a => absurd a (by decide), cnt7 := fun a => absurd a (by decide), st3 := fun _ => (by have q0 := st3 (by decide); clear holds part3 part4 i0 i3 i4 s5 s6 cur le cnt5 cnt6 cnt7 st3 st4 st5 st6 n0 n1 mkd l0 rA r6 r12 r3 r45 x4 x5 o4 o5; omega), st4 := fun a => absurd a (by decide), st5 := fun a => absurd a (by decide), st6 := fun a => absurd a (by decide), n0 := n0, n1 := fun _ => n1 (by decide), mkd := fun a => absurd a (by decide), l0 := l0, rA := rA, r6 := r6, r12 := r12, r3 := r3, r45 := r45, x4 := x4, x5 := x5, o4 := o4, o5 := o5 }

theorem Cont.length (h : Cont W lat slot buf val 2 wp wi i mk rs rp ri left xs n written marked begun first last steps own) (hW : 1 ≤ W) (hwp : Bit wp) (hwi : Bit wi) (e : ∀ p j k, Bit p → Bit j → 0 ≤ k → k < 2 + W → buf' p j k = if p = wp ∧ j = wi ∧ k = 0 then 1 + n % W else buf p j k) : Cont W lat slot buf' val 3 wp wi i mk rs rp ri left xs n written marked begun first last (steps + 1) own := by
  obtain ⟨holds, part3, part4, i0, i3, i4, s5, s6, cur, le, cnt5, cnt6, cnt7, st3, st4, st5, st6, n0, n1, mkd, l0, rA, r6, r12, r3, r45, x4, x5, o4, o5⟩ := h
  refine { holds := fun p j hp hj hn => (holds p j hp hj (fun a => absurd a.1 (by decide))).congr hW fun k hk hk' => ?_, part3 := fun _ => by rw [e wp wi 0 hwp hwi (by decide) (by clear holds part3 part4 i0 i3 i4 s5 s6 cur le cnt5 cnt6 cnt7 st3 st4 st5 st6 n0 n1 mkd l0 rA r6 r12 r3 r45 x4 x5 o4 o5; omega)]; exact if_pos ⟨rfl, rfl, rfl⟩, part4 := fun a => absurd a (by decide), i0 := i0, i3 := fun _ => i3 (by decide), i4 := fun a => absurd a (by decide), s5 := fun a => absurd a (by decide), s6 := fun a => absurd a (by decide), cur := cur, le := fun p hp _ => le p hp (fun a => absurd a.1 (by decide)), cnt5 := fun _ => cnt5 (by decide), cnt6 := fun a => absurd a (by decide), cnt7 := fun a => absurd a (by decide), st3 := fun _ => (by have q0 := st3 (by decide); clear holds part3 part4 i0 i3 i4 s5 s6 cur le cnt5 cnt6 cnt7 st3 st4 st5 st6 n0 n1 mkd l0 rA r6 r12 r3 r45 x4 x5 o4 o5; omega), st4 := fun a => absurd a (by decide), st5 := fun a => absurd a (by decide), st6 := fun a => absurd a (by decide), n0 := n0, n1 := fun _ => n1 (by decide), mkd := fun a => absurd a (by decide), l0 := l0, rA := rA, r6 := r6, r12 := r12, r3 := r3, r45 := r45, x4 := x4, x5 := x5, o4 := o4, o5 := o5 }
  rw [e p j k hp hj hk hk', if_neg (by clear holds part3 part4 i0 i3 i4 s5 s6 cur le cnt5 cnt6 cnt7 st3 st4 st5 st6 n0 n1 mkd l0 rA r6 r12 r3 r45 x4 x5 o4 o5; omega)]

theorem Cont.stamp (h : Cont W lat slot buf val 3 wp wi i mk rs rp ri left xs n written marked begun first last steps own) (hW : 1 ≤ W) (hwp : Bit wp) (hwi : Bit wi) (e : ∀ p j k, Bit p → Bit j → 0 ≤ k → k < 2 + W → buf' p j k = if p = wp ∧ j = wi ∧ k = 1 then x else buf p j k) : Cont W lat slot buf' val 4 wp wi i mk rs rp ri left xs n written marked begun first last (steps + 1) own := by
  obtain ⟨holds, part3, part4, i0, i3, i4, s5, s6, cur, le, cnt5, cnt6, cnt7, st3, st4, st5, st6, n0, n1, mkd, l0, rA, r6, r12, r3, r45, x4, x5, o4, o5⟩ := h
  refine { holds := fun p j hp hj hn => (holds p j hp hj (by clear holds part3 part4 i0 i3 i4 s5 s6 cur le cnt5 cnt6 cnt7 st3 st4 st5 st6 n0 n1 mkd l0 rA r6 r12 r3 r45 x4 x5 o4 o5; omega)).congr hW fun k hk hk' => ?_, part3 := fun _ => by rw [e wp wi 0 hwp hwi (by decide) (by clear holds part3 part4 i0 i3 i4 s5 s6 cur le cnt5 cnt6 cnt7 st3 st4 st5 st6 n0 n1 mkd l0 rA r6 r12 r3 r45 x4 x5 o4 o5; omega), if_neg (fun a => absurd a.2.2 (by decide))]; exact part3 (.inl rfl), part4 := fun _ j a b => absurd (i3 (by decide)) (by clear holds part3 part4 i0 i3 i4 s5 s6 cur le cnt5 cnt6 cnt7 st3 st4 st5 st6 n0 n1 mkd l0 rA r6 r12 r3 r45 x4 x5 o4 o5; omega), i0 := i0, i3 := fun a => absurd a (by decide), i4 := fun _ => (by have q0 := i3 (by decide); have q1 := Int.emod_nonneg n (show W ≠ 0 by clear holds part3 part4 i0 i3 i4 s5 s6 cur le cnt5 cnt6 cnt7 st3 st4 st5 st6 n0 n1 mkd l0 rA r6 r12 r3 r45 x4 x5 o4 o5; omega); clear holds part3 part4 i0 i3 i4 s5 s6 cur le cnt5 cnt6 cnt7 st3 st4 st5 st6 n0 n1 mkd l0 rA r6 r12 r3 r45 x4 x5 o4 o5; omega), s5 := fun a => absurd a (by decide), s6 := fun a => absurd a (by decide), cur := cur, le := fun p hp _ => le p hp (fun a => absurd a.1 (by decide)), cnt5 := fun _ => cnt5 (by decide), cnt6 := fun a => absurd a (by decide), cnt7 := fun a => absurd a (by decide), st3 := fun a => absurd a (by decide), st4 := fun _ => (by have q0 := st3 (by decide); have q1 := i3 (by decide); clear holds part3 part4 i0 i3 i4 s5 s6 cur le cnt5 cnt6 cnt7 st3 st4 st5 st6 n0 n1 mkd l0 rA r6 r12 r3 r45 x4 x5 o4 o5; omega), st5 := fun a => absurd a (by decide), st6 := fun a => absurd a (by decide), n0 := n0, n1 := fun _ => n1 (by decide), mkd := fun a => absurd a (by decide), l0 := l0, rA := rA, r6 := r6, r12 := r12, r3 := r3, r45 := r45, x4 := x4, x5 := x5, o4 := o4, o5 := o5 }
  rw [e p j k hp hj hk hk', if_neg (by clear holds part3 part4 i0 i3 i4 s5 s6 cur le cnt5 cnt6 cnt7 st3 st4 st5 st6 n0 n1 mkd l0 rA r6 r12 r3 r45 x4 x5 o4 o5; omega)]

theorem Cont.word (h : Cont W lat slot buf val 4 wp wi i mk rs rp ri left xs n written marked begun first last steps own) (hW : 1 ≤ W) (hwp : Bit wp) (hwi : Bit wi) (hi : i + 1 < 1 + n % W) (e : ∀ p j k, Bit p → Bit j → 0 ≤ k → k < 2 + W → buf' p j k = if p = wp ∧ j = wi ∧ k = 2 + i then n else buf p j k) : Cont W lat slot buf' val 4 wp wi (i + 1) mk rs rp ri left xs n written marked begun first last (steps + 1) own := by
  obtain ⟨holds, part3, part4, i0, i3, i4, s5, s6, cur, le, cnt5, cnt6, cnt7, st3, st4, st5, st6, n0, n1, mkd, l0, rA, r6, r12, r3, r45, x4, x5, o4, o5⟩ := h
  have hm := Int.emod_lt_of_pos n (show 0 < W by clear holds part3 part4 i0 i3 i4 s5 s6 cur le cnt5 cnt6 cnt7 st3 st4 st5 st6 n0 n1 mkd l0 rA r6 r12 r3 r45 x4 x5 o4 o5; omega)
  refine { holds := fun p j hp hj hn => (holds p j hp hj (by clear holds part3 part4 i0 i3 i4 s5 s6 cur le cnt5 cnt6 cnt7 st3 st4 st5 st6 n0 n1 mkd l0 rA r6 r12 r3 r45 x4 x5 o4 o5; omega)).congr hW fun k hk hk' => ?_, part3 := fun _ => by rw [e wp wi 0 hwp hwi (by decide) (by clear holds part3 part4 i0 i3 i4 s5 s6 cur le cnt5 cnt6 cnt7 st3 st4 st5 st6 n0 n1 mkd l0 rA r6 r12 r3 r45 x4 x5 o4 o5; omega), if_neg (by have z_i0 := i0; clear holds part3 part4 i0 i3 i4 s5 s6 cur le cnt5 cnt6 cnt7 st3 st4 st5 st6 n0 n1 mkd l0 rA r6 r12 r3 r45 x4 x5 o4 o5; omega)]; exact part3 (.inr rfl), part4 := fun _ j a b => ?_, i0 := (by have q0 := i0; clear holds part3 part4 i0 i3 i4 s5 s6 cur le cnt5 cnt6 cnt7 st3 st4 st5 st6 n0 n1 mkd l0 rA r6 r12 r3 r45 x4 x5 o4 o5; omega), i3 := fun a => absurd a (by decide), i4 := fun _ => hi, s5 := fun a => absurd a (by decide), s6 := fun a => absurd a (by decide), cur := cur, le := fun p hp _ => le p hp (fun a => absurd a.1 (by decide)), cnt5 := fun _ => cnt5 (by decide), cnt6 := fun a => absurd a (by decide), cnt7 := fun a => absurd a (by decide), st3 := fun a => absurd a (by decide), st4 := fun _ => (by have q0 := st4 rfl; clear holds part3 part4 i0 i3 i4 s5 s6 cur le cnt5 cnt6 cnt7 st3 st4 st5 st6 n0 n1 mkd l0 rA r6 r12 r3 r45 x4 x5 o4 o5; omega), st5 := fun a => absurd a (by decide), st6 := fun a => absurd a (by decide), n0 := n0, n1 := fun _ => n1 (by decide), mkd := fun a => absurd a (by decide), l0 := l0, rA := rA, r6 := r6, r12 := r12, r3 := r3, r45 := r45, x4 := x4, x5 := x5, o4 := o4, o5 := o5 }
  · rw [e p j k hp hj hk hk', if_neg (by clear holds part3 part4 i0 i3 i4 s5 s6 cur le cnt5 cnt6 cnt7 st3 st4 st5 st6 n0 n1 mkd l0 rA r6 r12 r3 r45 x4 x5 o4 o5; omega)]
  · rw [e wp wi _ hwp hwi (by clear holds part3 part4 i0 i3 i4 s5 s6 cur le cnt5 cnt6 cnt7 st3 st4 st5 st6 n0 n1 mkd l0 rA r6 r12 r3 r45 x4 x5 o4 o5; omega) (by clear holds part3 part4 i0 i3 i4 s5 s6 cur le cnt5 cnt6 cnt7 st3 st4 st5 st6 n0 n1 mkd l0 rA r6 r12 r3 r45 x4 x5 o4 o5; omega)]
    split
    · rfl
    · rename_i c; exact part4 rfl j a (by clear holds part3 part4 i0 i3 i4 s5 s6 cur le cnt5 cnt6 cnt7 st3 st4 st5 st6 n0 n1 mkd l0 rA r6 r12 r3 r45 x4 x5 o4 o5; omega)

theorem Cont.wordLast (h : Cont W lat slot buf val 4 wp wi i mk rs rp ri left xs n written marked begun first last steps own) (hW : 1 ≤ W) (hwp : Bit wp) (hwi : Bit wi) (hi : ¬ i + 1 < 1 + n % W) (hap : 3 ≤ rs → rs ≤ 5 → ¬ (rp = wp ∧ ri = wi)) (hsl : slot wp ≠ wi) (e : ∀ p j k, Bit p → Bit j → 0 ≤ k → k < 2 + W → buf' p j k = if p = wp ∧ j = wi ∧ k = 2 + i then n else buf p j k) : Cont W lat slot buf' (fun p j => if p = wp ∧ j = wi then n else val p j) 5 wp wi (i + 1) mk rs rp ri left xs n written marked begun first last (steps + 1) own := by
  obtain ⟨holds, part3, part4, i0, i3, i4, s5, s6, cur, le, cnt5, cnt6, cnt7, st3, st4, st5, st6, n0, n1, mkd, l0, rA, r6, r12, r3, r45, x4, x5, o4, o5⟩ := h
  have hm := Int.emod_lt_of_pos n (show 0 < W by clear holds part3 part4 i0 i3 i4 s5 s6 cur le cnt5 cnt6 cnt7 st3 st4 st5 st6 n0 n1 mkd l0 rA r6 r12 r3 r45 x4 x5 o4 o5; omega)
  have hm0 := Int.emod_nonneg n (show W ≠ 0 by clear holds part3 part4 i0 i3 i4 s5 s6 cur le cnt5 cnt6 cnt7 st3 st4 st5 st6 n0 n1 mkd l0 rA r6 r12 r3 r45 x4 x5 o4 o5; omega)
  have hi' := i4 rfl
  have hv : ∀ p, (if p = wp ∧ slot p = wi then n else val p (slot p)) = val p (slot p) := fun p => if_neg (by rintro ⟨rfl, h⟩; exact hsl h)
  have hv2 : 3 ≤ rs → rs ≤ 5 → (if rp = wp ∧ ri = wi then n else val rp ri) = val rp ri := fun a b => if_neg (hap a b)
  have d45 : rs = 4 ∨ rs = 5 → 3 ≤ rs ∧ rs ≤ 5 := by clear holds part3 part4 i0 i3 i4 s5 s6 cur le cnt5 cnt6 cnt7 st3 st4 st5 st6 n0 n1 mkd l0 rA r6 r12 r3 r45 x4 x5 o4 o5; omega
  have d5 : rs = 5 → 3 ≤ rs ∧ rs ≤ 5 := by clear holds part3 part4 i0 i3 i4 s5 s6 cur le cnt5 cnt6 cnt7 st3 st4 st5 st6 n0 n1 mkd l0 rA r6 r12 r3 r45 x4 x5 o4 o5; omega
  refine { holds := fun p j hp hj hn => ?_, part3 := fun a => absurd a (by decide), part4 := fun a => absurd a (by decide), i0 := (by have q0 := i0; clear holds part3 part4 i0 i3 i4 s5 s6 cur le cnt5 cnt6 cnt7 st3 st4 st5 st6 n0 n1 mkd l0 rA r6 r12 r3 r45 x4 x5 o4 o5; omega), i3 := fun a => absurd a (by decide), i4 := fun a => absurd a (by decide), s5 := fun _ => if_pos ⟨rfl, rfl⟩, s6 := fun a => absurd a (by decide), cur := (hv lat).trans cur, le := fun p hp _ => by show (if _ then _ else _) ≤ _; rw [hv]; exact le p hp (fun a => absurd a.1 (by decide)), cnt5 := fun _ => cnt5 (by decide), cnt6 := fun a => absurd a (by decide), cnt7 := fun a => absurd a (by decide), st3 := fun a => absurd a (by decide), st4 := fun a => absurd a (by decide), st5 := fun _ => (by have q0 := st4 rfl; have q1 := hi'; have q2 := hi; clear holds part3 part4 i0 i3 i4 s5 s6 cur le cnt5 cnt6 cnt7 st3 st4 st5 st6 n0 n1 mkd l0 rA r6 r12 r3 r45 x4 x5 o4 o5; omega), st6 := fun a => absurd a (by decide), n0 := n0, n1 := fun _ => n1 (by decide), mkd := fun a => absurd a (by decide), l0 := l0, rA := rA, r6 := r6, r12 := fun a => by show _ ≤ (if _ then _ else _); rw [hv]; exact r12 a, r3 := fun a b => by show _ ≤ (if _ then _ else _) ∧ (if _ then _ else _) ≤ _; rw [hv2 a b]; exact r3 a b, r45 := fun a => by show _ ≤ (if _ then _ else _) ∧ _ = 1 + (if _ then _ else _) % W; rw [hv2 (d45 a).1 (d45 a).2]; exact r45 a, x4 := x4, x5 := fun a => by show _ = List.replicate _ (if _ then _ else _) ∧ _; rw [hv2 (d5 a).1 (d5 a).2]; exact x5 a, o4 := o4, o5 := o5 }
  by_cases c : p = wp ∧ j = wi
  · obtain ⟨rfl, rfl⟩ := c
    rw [if_pos ⟨rfl, rfl⟩]
    refine ⟨n0, fun a => absurd (n1 (by decide)) (by clear holds part3 part4 i0 i3 i4 s5 s6 cur le cnt5 cnt6 cnt7 st3 st4 st5 st6 n0 n1 mkd l0 rA r6 r12 r3 r45 x4 x5 o4 o5; omega), fun _ => ?_, fun _ k a b => ?_⟩
    · rw [e p j 0 hp hj (by decide) (by clear holds part3 part4 i0 i3 i4 s5 s6 cur le cnt5 cnt6 cnt7 st3 st4 st5 st6 n0 n1 mkd l0 rA r6 r12 r3 r45 x4 x5 o4 o5; omega), if_neg (by have z_i0 := i0; clear holds part3 part4 i0 i3 i4 s5 s6 cur le cnt5 cnt6 cnt7 st3 st4 st5 st6 n0 n1 mkd l0 rA r6 r12 r3 r45 x4 x5 o4 o5; omega)]; exact part3 (.inr rfl)
    · rw [e p j _ hp hj (by clear holds part3 part4 i0 i3 i4 s5 s6 cur le cnt5 cnt6 cnt7 st3 st4 st5 st6 n0 n1 mkd l0 rA r6 r12 r3 r45 x4 x5 o4 o5; omega) (by clear holds part3 part4 i0 i3 i4 s5 s6 cur le cnt5 cnt6 cnt7 st3 st4 st5 st6 n0 n1 mkd l0 rA r6 r12 r3 r45 x4 x5 o4 o5; omega)]
      split
      · rfl
      · rename_i d; exact part4 rfl k a (by clear holds part3 part4 i0 i3 i4 s5 s6 cur le cnt5 cnt6 cnt7 st3 st4 st5 st6 n0 n1 mkd l0 rA r6 r12 r3 r45 x4 x5 o4 o5; omega)
  · rw [if_neg c]
    refine (holds p j hp hj (fun a => c a.2)).congr hW fun k hk hk' => ?_
    rw [e p j k hp hj hk hk', if_neg (fun a => c ⟨a.1, a.2.1⟩)]

theorem Cont.shown (h : Cont W lat slot buf val 5 wp wi i mk rs rp ri left xs n written marked begun first last steps own) (hwp : Bit wp) (hlat : Bit lat) (hrp : Bit rp) (e : ∀ p, Bit p → slot' p = if p = wp then wi else slot p) {m' : Int} (hm' : m' = if lat % 2 == wp then n else marked) : Cont W lat slot' buf val 6 wp wi i (lat % 2 == wp) rs rp ri left xs n written m' begun first last (steps + 1) own := by
  obtain ⟨holds, part3, part4, i0, i3, i4, s5, s6, cur, le, cnt5, cnt6, cnt7, st3, st4, st5, st6, n0, n1, mkd, l0, rA, r6, r12, r3, r45, x4, x5, o4, o5⟩ := h
  have hl2 : lat % 2 = lat := by unfold Bit at hlat; clear holds part3 part4 i0 i3 i4 s5 s6 cur le cnt5 cnt6 cnt7 st3 st4 st5 st6 n0 n1 mkd l0 rA r6 r12 r3 r45 x4 x5 o4 o5; omega
  rw [hl2] at hm' ⊢
  have c5 := cnt5 (by decide)
  have hmm : marked ≤ m' := by rw [hm']; clear holds part3 part4 i0 i3 i4 s5 s6 cur le cnt5 cnt6 cnt7 st3 st4 st5 st6 n0 n1 mkd l0 rA r6 r12 r3 r45 x4 x5 o4 o5; split <;> omega
  have hmn : m' ≤ n := by rw [hm']; clear holds part3 part4 i0 i3 i4 s5 s6 cur le cnt5 cnt6 cnt7 st3 st4 st5 st6 n0 n1 mkd l0 rA r6 r12 r3 r45 x4 x5 o4 o5; split <;> omega
  have hs5 := s5 rfl
  have hk : ((lat == wp) = true → m' = n) ∧ ((lat == wp) = false → m' = n - 1) := by
    rw [hm']; clear holds part3 part4 i0 i3 i4 s5 s6 cur le cnt5 cnt6 cnt7 st3 st4 st5 st6 n0 n1 mkd l0 rA r6 r12 r3 r45 x4 x5 o4 o5
    by_cases c : lat = wp
    · simp [c]
    · simp [c]; exact c5.2
  refine { holds := fun p j hp hj _ => holds p j hp hj (fun a => absurd a.1 (by decide)), part3 := fun a => absurd a (by decide), part4 := fun a => absurd a (by decide), i0 := i0, i3 := fun a => absurd a (by decide), i4 := fun a => absurd a (by decide), s5 := fun a => absurd a (by decide), s6 := fun _ => by rw [e wp hwp, if_pos rfl]; exact hs5, cur := ?_, le := fun p hp hn => ?_, cnt5 := fun a => absurd a (by decide), cnt6 := fun _ => ⟨c5.1, hk⟩, cnt7 := fun a => absurd a (by decide), st3 := fun a => absurd a (by decide), st4 := fun a => absurd a (by decide), st5 := fun a => absurd a (by decide), st6 := fun _ => (by have q0 := st5 rfl; clear holds part3 part4 i0 i3 i4 s5 s6 cur le cnt5 cnt6 cnt7 st3 st4 st5 st6 n0 n1 mkd l0 rA r6 r12 r3 r45 x4 x5 o4 o5; omega), n0 := n0, n1 := fun _ => n1 (by decide), mkd := fun _ a => by simpa using a, l0 := l0, rA := fun a => (by have q0 := rA a; have q1 := hmm; clear holds part3 part4 i0 i3 i4 s5 s6 cur le cnt5 cnt6 cnt7 st3 st4 st5 st6 n0 n1 mkd l0 rA r6 r12 r3 r45 x4 x5 o4 o5; omega), r6 := fun a => (by have q0 := r6 a; have q1 := hmm; clear holds part3 part4 i0 i3 i4 s5 s6 cur le cnt5 cnt6 cnt7 st3 st4 st5 st6 n0 n1 mkd l0 rA r6 r12 r3 r45 x4 x5 o4 o5; omega), r12 := fun a => ?_, r3 := fun a b => (by have q0 := r3 a b; have q1 := hmm; clear holds part3 part4 i0 i3 i4 s5 s6 cur le cnt5 cnt6 cnt7 st3 st4 st5 st6 n0 n1 mkd l0 rA r6 r12 r3 r45 x4 x5 o4 o5; omega), r45 := r45, x4 := x4, x5 := x5, o4 := o4, o5 := o5 }
  · rw [e lat hlat]
    by_cases c : lat = wp
    · rw [if_pos c, hk.1 (by simpa using c), c]; exact hs5
    · rw [if_neg c, hk.2 (by simpa using c), cur]; exact c5.2
  · have c : p ≠ wp := fun a => hn ⟨rfl, a⟩
    rw [e p hp, if_neg c]
    exact Int.le_trans (le p hp (fun a => absurd a.1 (by decide))) hmm
  · rw [e rp hrp]
    split
    · rename_i c; rw [c, hs5]; have q := (rA (by clear holds part3 part4 i0 i3 i4 s5 s6 cur le cnt5 cnt6 cnt7 st3 st4 st5 st6 n0 n1 mkd l0 rA r6 r12 r3 r45 x4 x5 o4 o5; omega)).2.2.1; clear holds part3 part4 i0 i3 i4 s5 s6 cur le cnt5 cnt6 cnt7 st3 st4 st5 st6 n0 n1 mkd l0 rA r6 r12 r3 r45 x4 x5 o4 o5; omega
    · exact r12 a

theorem Cont.ended (h : Cont W lat slot buf val 6 wp wi i mk rs rp ri left xs n written marked begun first last steps own) (hwp : Bit wp) (hlat : mk = true → lat = wp) {m' : Int} (hm' : m' = if mk then marked else n) : Cont W wp slot buf val 7 wp wi i mk rs rp ri left xs n n m' begun first last (steps + 1) own := by
  obtain ⟨holds, part3, part4, i0, i3, i4, s5, s6, cur, le, cnt5, cnt6, cnt7, st3, st4, st5, st6, n0, n1, mkd, l0, rA, r6, r12, r3, r45, x4, x5, o4, o5⟩ := h
  have c6 := cnt6 rfl
  have hmm : m' = n ∧ marked ≤ n := by
    rw [hm']; clear holds part3 part4 i0 i3 i4 s5 s6 cur le cnt5 cnt6 cnt7 st3 st4 st5 st6 n0 n1 mkd l0 rA r6 r12 r3 r45 x4 x5 o4 o5
    cases mk
    · have := c6.2.2 rfl; simp; omega
    · have := c6.2.1 rfl; simp [this]
  have hm2 : marked ≤ m' := by clear holds part3 part4 i0 i3 i4 s5 s6 cur le cnt5 cnt6 cnt7 st3 st4 st5 st6 n0 n1 mkd l0 rA r6 r12 r3 r45 x4 x5 o4 o5; omega
  refine { holds := fun p j hp hj _ => holds p j hp hj (fun a => absurd a.1 (by decide)), part3 := fun a => absurd a (by decide), part4 := fun a => absurd a (by decide), i0 := i0, i3 := fun a => absurd a (by decide), i4 := fun a => absurd a (by decide), s5 := fun a => absurd a (by decide), s6 := fun a => absurd a (by decide), cur := by rw [hmm.1]; exact s6 rfl, le := fun p hp _ => ?_, cnt5 := fun a => absurd a (by decide), cnt6 := fun a => absurd a (by decide), cnt7 := fun _ => ⟨rfl, hmm.1⟩, st3 := fun a => absurd a (by decide), st4 := fun a => absurd a (by decide), st5 := fun a => absurd a (by decide), st6 := fun a => absurd a (by decide), n0 := n0, n1 := fun a => absurd a (by decide), mkd := fun a => absurd a (by decide), l0 := l0, rA := fun a => (by have q0 := rA a; have q1 := hm2; clear holds part3 part4 i0 i3 i4 s5 s6 cur le cnt5 cnt6 cnt7 st3 st4 st5 st6 n0 n1 mkd l0 rA r6 r12 r3 r45 x4 x5 o4 o5; omega), r6 := fun a => (by have q0 := r6 a; have q1 := hm2; clear holds part3 part4 i0 i3 i4 s5 s6 cur le cnt5 cnt6 cnt7 st3 st4 st5 st6 n0 n1 mkd l0 rA r6 r12 r3 r45 x4 x5 o4 o5; omega), r12 := r12, r3 := fun a b => (by have q0 := r3 a b; have q1 := hm2; clear holds part3 part4 i0 i3 i4 s5 s6 cur le cnt5 cnt6 cnt7 st3 st4 st5 st6 n0 n1 mkd l0 rA r6 r12 r3 r45 x4 x5 o4 o5; omega), r45 := r45, x4 := x4, x5 := x5, o4 := o4, o5 := o5 }
  by_cases c : p = wp
  · subst c; rw [s6 rfl, hmm.1]; exact Int.le_refl _
  · exact Int.le_trans (le p hp (fun a => c a.2)) hm2

theorem Cont.beginR (h : Cont W lat slot buf val st wp wi i mk 6 rp ri left xs n written marked begun first last steps own) (hst : st ≤ 7) : Cont W lat slot buf val st wp wi i mk 0 0 0 0 [] n written marked written marked last steps 0 := by
  obtain ⟨holds, part3, part4, i0, i3, i4, s5, s6, cur, le, cnt5, cnt6, cnt7, st3, st4, st5, st6, n0, n1, mkd, l0, rA, r6, r12, r3, r45, x4, x5, o4, o5⟩ := h
  have hwm : 0 ≤ written ∧ written ≤ marked := by
    by_cases a : st ≤ 5
    · have q1 := n1 (by clear holds part3 part4 i0 i3 i4 s5 s6 cur le cnt5 cnt6 cnt7 st3 st4 st5 st6 n0 n1 mkd l0 rA r6 r12 r3 r45 x4 x5 o4 o5; omega); have q2 := cnt5 a; clear holds part3 part4 i0 i3 i4 s5 s6 cur le cnt5 cnt6 cnt7 st3 st4 st5 st6 n0 n1 mkd l0 rA r6 r12 r3 r45 x4 x5 o4 o5; omega
    by_cases b : st = 6
    · have q1 := n1 (by clear holds part3 part4 i0 i3 i4 s5 s6 cur le cnt5 cnt6 cnt7 st3 st4 st5 st6 n0 n1 mkd l0 rA r6 r12 r3 r45 x4 x5 o4 o5; omega); have q2 := cnt6 b; clear holds part3 part4 i0 i3 i4 s5 s6 cur le cnt5 cnt6 cnt7 st3 st4 st5 st6 n0 n1 mkd l0 rA r6 r12 r3 r45 x4 x5 o4 o5
      cases mk
      · have := q2.2.2 rfl; omega
      · have := q2.2.1 rfl; omega
    · have q1 := cnt7 (by clear holds part3 part4 i0 i3 i4 s5 s6 cur le cnt5 cnt6 cnt7 st3 st4 st5 st6 n0 n1 mkd l0 rA r6 r12 r3 r45 x4 x5 o4 o5; omega); have z_n0 := n0; clear holds part3 part4 i0 i3 i4 s5 s6 cur le cnt5 cnt6 cnt7 st3 st4 st5 st6 n0 n1 mkd l0 rA r6 r12 r3 r45 x4 x5 o4 o5; omega
  exact { holds := holds, part3 := part3, part4 := part4, i0 := i0, i3 := i3, i4 := i4, s5 := s5, s6 := s6, cur := cur, le := le, cnt5 := cnt5, cnt6 := cnt6, cnt7 := cnt7, st3 := st3, st4 := st4, st5 := st5, st6 := st6, n0 := n0, n1 := n1, mkd := mkd, l0 := l0, rA := fun _ => ⟨hwm.1, hwm.2, Int.le_refl _, r6 (by decide)⟩, r6 := fun a => absurd a (by decide), r12 := fun a => absurd a (by decide), r3 := fun a b => absurd (And.intro a b) (by decide), r45 := fun a => absurd a (by decide), x4 := fun _ => rfl, x5 := fun a => absurd a (by decide), o4 := fun _ => rfl, o5 := fun a => absurd a (by decide) }

theorem Cont.latest (h : Cont W lat slot buf val st wp wi i mk 0 rp ri left xs n written marked begun first last steps own) (hlat : Bit lat) (e : x = lat % 2) : Cont W lat slot buf val st wp wi i mk 1 x ri left xs n written marked begun first last steps (own + 1) := by
  obtain ⟨holds, part3, part4, i0, i3, i4, s5, s6, cur, le, cnt5, cnt6, cnt7, st3, st4, st5, st6, n0, n1, mkd, l0, rA, r6, r12, r3, r45, x4, x5, o4, o5⟩ := h
  have hl2 : x = lat := by unfold Bit at hlat; clear holds part3 part4 i0 i3 i4 s5 s6 cur le cnt5 cnt6 cnt7 st3 st4 st5 st6 n0 n1 mkd l0 rA r6 r12 r3 r45 x4 x5 o4 o5; omega
  subst hl2
  exact { holds := holds, part3 := part3, part4 := part4, i0 := i0, i3 := i3, i4 := i4, s5 := s5, s6 := s6, cur := cur, le := le, cnt5 := cnt5, cnt6 := cnt6, cnt7 := cnt7, st3 := st3, st4 := st4, st5 := st5, st6 := st6, n0 := n0, n1 := n1, mkd := mkd, l0 := l0, rA := fun _ => rA (by decide), r6 := fun a => absurd a (by decide), r12 := fun _ => by rw [cur]; exact (rA (by decide)).2.2.1, r3 := fun a b => absurd (And.intro a b) (by decide), r45 := fun a => absurd a (by decide), x4 := fun _ => x4 (by decide), x5 := fun a => absurd a (by decide), o4 := fun _ => (by have q0 := o4 (by decide); clear holds part3 part4 i0 i3 i4 s5 s6 cur le cnt5 cnt6 cnt7 st3 st4 st5 st6 n0 n1 mkd l0 rA r6 r12 r3 r45 x4 x5 o4 o5; omega), o5 := fun a => absurd a (by decide) }

theorem Cont.tell (h : Cont W lat slot buf val st wp wi i mk 1 rp ri left xs n written marked begun first last steps own) : Cont W lat slot buf val st wp wi i mk 2 rp ri left xs n written marked begun first last steps (own + 1) := by
  obtain ⟨holds, part3, part4, i0, i3, i4, s5, s6, cur, le, cnt5, cnt6, cnt7, st3, st4, st5, st6, n0, n1, mkd, l0, rA, r6, r12, r3, r45, x4, x5, o4, o5⟩ := h
  exact { holds := holds, part3 := part3, part4 := part4, i0 := i0, i3 := i3, i4 := i4, s5 := s5, s6 := s6, cur := cur, le := le, cnt5 := cnt5, cnt6 := cnt6, cnt7 := cnt7, st3 := st3, st4 := st4, st5 := st5, st6 := st6, n0 := n0, n1 := n1, mkd := mkd, l0 := l0, rA := fun _ => rA (by decide), r6 := fun a => absurd a (by decide), r12 := fun _ => r12 (by decide), r3 := fun a b => absurd (And.intro a b) (by decide), r45 := fun a => absurd a (by decide), x4 := fun _ => x4 (by decide), x5 := fun a => absurd a (by decide), o4 := fun _ => (by have q0 := o4 (by decide); clear holds part3 part4 i0 i3 i4 s5 s6 cur le cnt5 cnt6 cnt7 st3 st4 st5 st6 n0 n1 mkd l0 rA r6 r12 r3 r45 x4 x5 o4 o5; omega), o5 := fun a => absurd a (by decide) }

theorem Cont.newer (h : Cont W lat slot buf val st wp wi i mk 2 rp ri left xs n written marked begun first last steps own) (hrp : Bit rp) (hsl : Bit (slot rp)) (hA : st = 6 → wp = rp → lat = rp) (e : x = slot rp % 2) : Cont W lat slot buf val st wp wi i mk 3 rp x left xs n written marked begun first last steps (own + 1) := by
  obtain ⟨holds, part3, part4, i0, i3, i4, s5, s6, cur, le, cnt5, cnt6, cnt7, st3, st4, st5, st6, n0, n1, mkd, l0, rA, r6, r12, r3, r45, x4, x5, o4, o5⟩ := h
  have hl2 : x = slot rp := by unfold Bit at hsl; clear holds part3 part4 i0 i3 i4 s5 s6 cur le cnt5 cnt6 cnt7 st3 st4 st5 st6 n0 n1 mkd l0 rA r6 r12 r3 r45 x4 x5 o4 o5; omega
  subst hl2
  refine { holds := holds, part3 := part3, part4 := part4, i0 := i0, i3 := i3, i4 := i4, s5 := s5, s6 := s6, cur := cur, le := le, cnt5 := cnt5, cnt6 := cnt6, cnt7 := cnt7, st3 := st3, st4 := st4, st5 := st5, st6 := st6, n0 := n0, n1 := n1, mkd := mkd, l0 := l0, rA := fun _ => rA (by decide), r6 := fun a => absurd a (by decide), r12 := fun a => absurd a (by decide), r3 := fun _ _ => ⟨r12 (.inr rfl), ?_⟩, r45 := fun a => absurd a (by decide), x4 := fun _ => x4 (by decide), x5 := fun a => absurd a (by decide), o4 := fun _ => (by have q0 := o4 (by decide); clear holds part3 part4 i0 i3 i4 s5 s6 cur le cnt5 cnt6 cnt7 st3 st4 st5 st6 n0 n1 mkd l0 rA r6 r12 r3 r45 x4 x5 o4 o5; omega), o5 := fun a => absurd a (by decide) }
  by_cases c : st = 6 ∧ wp = rp
  · have q := cur; rw [hA c.1 c.2] at q; rw [q]; exact Int.le_refl _
  · exact le rp hrp (fun a => c ⟨a.1, a.2.symm⟩)

theorem Cont.lenNone (h : Cont W lat slot buf val st wp wi i mk 3 rp ri left xs n written marked begun first last steps own) (hW : 1 ≤ W) (hh : Holds W (buf rp ri) (val rp ri)) (hz : buf rp ri 0 = 0) : (begun = 0 ∧ first = 0 ∧ last = 0 ∧ own + 1 = 4) ∧ Cont W lat slot buf val st wp wi i mk 6 rp ri left xs n written marked begun first last steps (own + 1) := by
  obtain ⟨holds, part3, part4, i0, i3, i4, s5, s6, cur, le, cnt5, cnt6, cnt7, st3, st4, st5, st6, n0, n1, mkd, l0, rA, r6, r12, r3, r45, x4, x5, o4, o5⟩ := h
  have hv : val rp ri = 0 := by
    by_cases c : 1 ≤ val rp ri
    · have q1 := hh.len c; have q2 := Int.emod_nonneg (val rp ri) (show W ≠ 0 by clear holds part3 part4 i0 i3 i4 s5 s6 cur le cnt5 cnt6 cnt7 st3 st4 st5 st6 n0 n1 mkd l0 rA r6 r12 r3 r45 x4 x5 o4 o5; omega); clear holds part3 part4 i0 i3 i4 s5 s6 cur le cnt5 cnt6 cnt7 st3 st4 st5 st6 n0 n1 mkd l0 rA r6 r12 r3 r45 x4 x5 o4 o5; omega
    · have q1 := hh.v0; clear holds part3 part4 i0 i3 i4 s5 s6 cur le cnt5 cnt6 cnt7 st3 st4 st5 st6 n0 n1 mkd l0 rA r6 r12 r3 r45 x4 x5 o4 o5; omega
  have a := rA (by decide)
  have b := r3 (by decide) (by decide)
  have o := o4 (by decide)
  refine ⟨by have z_l0 := l0; clear holds part3 part4 i0 i3 i4 s5 s6 cur le cnt5 cnt6 cnt7 st3 st4 st5 st6 n0 n1 mkd l0 rA r6 r12 r3 r45 x4 x5 o4 o5; omega, { holds := holds, part3 := part3, part4 := part4, i0 := i0, i3 := i3, i4 := i4, s5 := s5, s6 := s6, cur := cur, le := le, cnt5 := cnt5, cnt6 := cnt6, cnt7 := cnt7, st3 := st3, st4 := st4, st5 := st5, st6 := st6, n0 := n0, n1 := n1, mkd := mkd, l0 := l0, rA := fun a => absurd a (by decide), r6 := fun _ => (by have q0 := a; clear holds part3 part4 i0 i3 i4 s5 s6 cur le cnt5 cnt6 cnt7 st3 st4 st5 st6 n0 n1 mkd l0 rA r6 r12 r3 r45 x4 x5 o4 o5; omega), r12 := fun a => absurd a (by decide), r3 := fun a b => absurd (And.intro a b) (by decide), r45 := fun a => absurd a (by decide), x4 := fun a => absurd a (by decide), x5 := fun a => absurd a (by decide), o4 := fun a => absurd a (by decide), o5 := fun a => absurd a (by decide) }⟩

theorem Cont.lenSome (h : Cont W lat slot buf val st wp wi i mk 3 rp ri left xs n written marked begun first last steps own) (hW : 1 ≤ W) (hh : Holds W (buf rp ri) (val rp ri)) (hz : ¬ buf rp ri 0 = 0) : (buf rp ri 0 ≤ W) ∧ Cont W lat slot buf val st wp wi i mk 4 rp ri (buf rp ri 0) xs n written marked begun first last steps (own + 1) := by
  obtain ⟨holds, part3, part4, i0, i3, i4, s5, s6, cur, le, cnt5, cnt6, cnt7, st3, st4, st5, st6, n0, n1, mkd, l0, rA, r6, r12, r3, r45, x4, x5, o4, o5⟩ := h
  have hv : 1 ≤ val rp ri := by
    by_cases c : val rp ri = 0
    · exact absurd (hh.none c) hz
    · have q1 := hh.v0; clear holds part3 part4 i0 i3 i4 s5 s6 cur le cnt5 cnt6 cnt7 st3 st4 st5 st6 n0 n1 mkd l0 rA r6 r12 r3 r45 x4 x5 o4 o5; omega
  have hl := hh.len hv
  have hm := Int.emod_lt_of_pos (val rp ri) (show 0 < W by clear holds part3 part4 i0 i3 i4 s5 s6 cur le cnt5 cnt6 cnt7 st3 st4 st5 st6 n0 n1 mkd l0 rA r6 r12 r3 r45 x4 x5 o4 o5; omega)
  refine ⟨by clear holds part3 part4 i0 i3 i4 s5 s6 cur le cnt5 cnt6 cnt7 st3 st4 st5 st6 n0 n1 mkd l0 rA r6 r12 r3 r45 x4 x5 o4 o5; omega, { holds := holds, part3 := part3, part4 := part4, i0 := i0, i3 := i3, i4 := i4, s5 := s5, s6 := s6, cur := cur, le := le, cnt5 := cnt5, cnt6 := cnt6, cnt7 := cnt7, st3 := st3, st4 := st4, st5 := st5, st6 := st6, n0 := n0, n1 := n1, mkd := mkd, l0 := l0, rA := fun _ => rA (by decide), r6 := fun a => absurd a (by decide), r12 := fun a => absurd a (by decide), r3 := fun _ _ => r3 (by decide) (by decide), r45 := fun _ => ⟨hv, hl⟩, x4 := fun _ => x4 (by decide), x5 := fun a => absurd a (by decide), o4 := fun _ => (by have q0 := o4 (by decide); clear holds part3 part4 i0 i3 i4 s5 s6 cur le cnt5 cnt6 cnt7 st3 st4 st5 st6 n0 n1 mkd l0 rA r6 r12 r3 r45 x4 x5 o4 o5; omega), o5 := fun a => absurd a (by decide) }⟩

theorem Cont.when (h : Cont W lat slot buf val st wp wi i mk 4 rp ri left xs n written marked begun first last steps own) (hW : 1 ≤ W) : Cont W lat slot buf val st wp wi i mk 5 rp ri left xs n written marked begun first last steps (own + 1) := by
  obtain ⟨holds, part3, part4, i0, i3, i4, s5, s6, cur, le, cnt5, cnt6, cnt7, st3, st4, st5, st6, n0, n1, mkd, l0, rA, r6, r12, r3, r45, x4, x5, o4, o5⟩ := h
  have hx := x4 (by decide)
  subst hx
  have hm := Int.emod_nonneg (val rp ri) (show W ≠ 0 by clear holds part3 part4 i0 i3 i4 s5 s6 cur le cnt5 cnt6 cnt7 st3 st4 st5 st6 n0 n1 mkd l0 rA r6 r12 r3 r45 x4 x5 o4 o5; omega)
  exact { holds := holds, part3 := part3, part4 := part4, i0 := i0, i3 := i3, i4 := i4, s5 := s5, s6 := s6, cur := cur, le := le, cnt5 := cnt5, cnt6 := cnt6, cnt7 := cnt7, st3 := st3, st4 := st4, st5 := st5, st6 := st6, n0 := n0, n1 := n1, mkd := mkd, l0 := l0, rA := fun _ => rA (by decide), r6 := fun a => absurd a (by decide), r12 := fun a => absurd a (by decide), r3 := fun _ _ => r3 (by decide) (by decide), r45 := fun _ => r45 (.inl rfl), x4 := fun a => absurd a (by decide), x5 := fun _ => ⟨rfl, by have q := r45 (.inl rfl); clear holds part3 part4 i0 i3 i4 s5 s6 cur le cnt5 cnt6 cnt7 st3 st4 st5 st6 n0 n1 mkd l0 rA r6 r12 r3 r45 x4 x5 o4 o5; simp; omega⟩, o4 := fun a => absurd a (by decide), o5 := fun _ => by have q := o4 (by decide); clear holds part3 part4 i0 i3 i4 s5 s6 cur le cnt5 cnt6 cnt7 st3 st4 st5 st6 n0 n1 mkd l0 rA r6 r12 r3 r45 x4 x5 o4 o5; simp; omega }

theorem Cont.wordR (h : Cont W lat slot buf val st wp wi i mk 5 rp ri left xs n written marked begun first last steps own) (hh : Holds W (buf rp ri) (val rp ri)) (hl : (xs.length : Int) + 1 < left) : Cont W lat slot buf val st wp wi i mk 5 rp ri left (xs ++ [buf rp ri (2 + xs.length)]) n written marked begun first last steps (own + 1) := by
  obtain ⟨holds, part3, part4, i0, i3, i4, s5, s6, cur, le, cnt5, cnt6, cnt7, st3, st4, st5, st6, n0, n1, mkd, l0, rA, r6, r12, r3, r45, x4, x5, o4, o5⟩ := h
  have q := r45 (.inr rfl)
  have hw := hh.words q.1 xs.length (by clear holds part3 part4 i0 i3 i4 s5 s6 cur le cnt5 cnt6 cnt7 st3 st4 st5 st6 n0 n1 mkd l0 rA r6 r12 r3 r45 x4 x5 o4 o5; omega) (by clear holds part3 part4 i0 i3 i4 s5 s6 cur le cnt5 cnt6 cnt7 st3 st4 st5 st6 n0 n1 mkd l0 rA r6 r12 r3 r45 x4 x5 o4 o5; omega)
  have hx := x5 rfl
  have ho := o5 rfl
  exact { holds := holds, part3 := part3, part4 := part4, i0 := i0, i3 := i3, i4 := i4, s5 := s5, s6 := s6, cur := cur, le := le, cnt5 := cnt5, cnt6 := cnt6, cnt7 := cnt7, st3 := st3, st4 := st4, st5 := st5, st6 := st6, n0 := n0, n1 := n1, mkd := mkd, l0 := l0, rA := fun _ => rA (by decide), r6 := fun a => absurd a (by decide), r12 := fun a => absurd a (by decide), r3 := fun _ _ => r3 (by decide) (by decide), r45 := fun _ => q, x4 := fun a => absurd a (by decide), x5 := fun _ => ⟨by rw [hw, List.length_append, List.length_singleton, List.replicate_succ', ← hx.1], by clear holds part3 part4 i0 i3 i4 s5 s6 cur le cnt5 cnt6 cnt7 st3 st4 st5 st6 n0 n1 mkd l0 rA r6 r12 r3 r45 x4 x5 o4 o5; simp; omega⟩, o4 := fun a => absurd a (by decide), o5 := fun _ => by clear holds part3 part4 i0 i3 i4 s5 s6 cur le cnt5 cnt6 cnt7 st3 st4 st5 st6 n0 n1 mkd l0 rA r6 r12 r3 r45 x4 x5 o4 o5; simp; omega }

theorem Cont.wordEnd (h : Cont W lat slot buf val st wp wi i mk 5 rp ri left xs n written marked begun first last steps own) (hh : Holds W (buf rp ri) (val rp ri)) (hl : ¬ (xs.length : Int) + 1 < left) {l' : List Int} {own' : Int} : ∃ v, xs ++ [buf rp ri (2 + xs.length)] = List.replicate (xs.length + 1) v ∧ begun ≤ v ∧ first ≤ v ∧ last ≤ v ∧ 1 ≤ v ∧ v ≤ marked ∧ (xs.length : Int) + 1 = 1 + v % W ∧ own + 1 = xs.length + 1 + 5 ∧
    Cont W lat slot buf val st wp wi i mk 6 rp ri left l' n written marked begun first v steps own' := by
  obtain ⟨holds, part3, part4, i0, i3, i4, s5, s6, cur, le, cnt5, cnt6, cnt7, st3, st4, st5, st6, n0, n1, mkd, l0, rA, r6, r12, r3, r45, x4, x5, o4, o5⟩ := h
  have q := r45 (.inr rfl)
  have hx := x5 rfl
  have hw := hh.words q.1 xs.length (by clear holds part3 part4 i0 i3 i4 s5 s6 cur le cnt5 cnt6 cnt7 st3 st4 st5 st6 n0 n1 mkd l0 rA r6 r12 r3 r45 x4 x5 o4 o5; omega) (by clear holds part3 part4 i0 i3 i4 s5 s6 cur le cnt5 cnt6 cnt7 st3 st4 st5 st6 n0 n1 mkd l0 rA r6 r12 r3 r45 x4 x5 o4 o5; omega)
  have ho := o5 rfl
  have a := rA (by decide)
  have b := r3 (by decide) (by decide)
  refine ⟨val rp ri, by rw [hw, List.replicate_succ', ← hx.1], by clear holds part3 part4 i0 i3 i4 s5 s6 cur le cnt5 cnt6 cnt7 st3 st4 st5 st6 n0 n1 mkd l0 rA r6 r12 r3 r45 x4 x5 o4 o5; omega, by clear holds part3 part4 i0 i3 i4 s5 s6 cur le cnt5 cnt6 cnt7 st3 st4 st5 st6 n0 n1 mkd l0 rA r6 r12 r3 r45 x4 x5 o4 o5; omega, by clear holds part3 part4 i0 i3 i4 s5 s6 cur le cnt5 cnt6 cnt7 st3 st4 st5 st6 n0 n1 mkd l0 rA r6 r12 r3 r45 x4 x5 o4 o5; omega, by clear holds part3 part4 i0 i3 i4 s5 s6 cur le cnt5 cnt6 cnt7 st3 st4 st5 st6 n0 n1 mkd l0 rA r6 r12 r3 r45 x4 x5 o4 o5; omega, by clear holds part3 part4 i0 i3 i4 s5 s6 cur le cnt5 cnt6 cnt7 st3 st4 st5 st6 n0 n1 mkd l0 rA r6 r12 r3 r45 x4 x5 o4 o5; omega, by clear holds part3 part4 i0 i3 i4 s5 s6 cur le cnt5 cnt6 cnt7 st3 st4 st5 st6 n0 n1 mkd l0 rA r6 r12 r3 r45 x4 x5 o4 o5; omega, by clear holds part3 part4 i0 i3 i4 s5 s6 cur le cnt5 cnt6 cnt7 st3 st4 st5 st6 n0 n1 mkd l0 rA r6 r12 r3 r45 x4 x5 o4 o5; omega, ?_⟩
  exact { holds := holds, part3 := part3, part4 := part4, i0 := i0, i3 := i3, i4 := i4, s5 := s5, s6 := s6, cur := cur, le := le, cnt5 := cnt5, cnt6 := cnt6, cnt7 := cnt7, st3 := st3, st4 := st4, st5 := st5, st6 := st6, n0 := n0, n1 := n1, mkd := mkd, l0 := (by have q0 := l0; have q1 := b; have q2 := a; clear holds part3 part4 i0 i3 i4 s5 s6 cur le cnt5 cnt6 cnt7 st3 st4 st5 st6 n0 n1 mkd l0 rA r6 r12 r3 r45 x4 x5 o4 o5; omega), rA := fun a => absurd a (by decide), r6 := fun _ => b.2, r12 := fun a => absurd a (by decide), r3 := fun a b => absurd (And.intro a b) (by decide), r45 := fun a => absurd a (by decide), x4 := fun a => absurd a (by decide), x5 := fun a => absurd a (by decide), o4 := fun a => absurd a (by decide), o5 := fun a => absurd a (by decide) }

end
end Go.Proofs.Ytpkjffiajidfcaa

/- A play of a write and a read as plain values; what holds of it whatever steps follow each other. -/
namespace Go.Proofs.Ytpkjffiajidfcaa

theorem rd_set (ms : List Int) (i : Nat) (v : Int) (j : Nat) : rd (ms.set i v) j = if i = j ∧ j < ms.length then v else rd ms j := by
  unfold rd
  rw [List.getD_eq_getElem?_getD, List.getD_eq_getElem?_getD, List.getElem?_set]
  by_cases h : i = j
  · subst h
    by_cases h2 : i < ms.length
    · simp [h2]
    · simp [h2, List.getElem?_eq_none (Nat.le_of_not_lt h2)]
  · simp [h]

/-- The slot of a pair, a buffer's word. -/
def slotf (ms : List Int) (p : Int) : Int := rd ms (1 + 1 + p).toNat
def buff (W : Int) (ms : List Int) (p j k : Int) : Int := rd ms (bufAt 1 W p j + k).toNat

theorem buf_lo {W p j k : Int} (hW : 1 ≤ W) (hp : Bit p) (hj : Bit j) (hk : 0 ≤ k) (hk' : k < 2 + W) : 4 ≤ bufAt 1 W p j + k ∧ bufAt 1 W p j + k < 12 + 4 * W := by
  rcases hp with rfl | rfl <;> rcases hj with rfl | rfl <;> simp [bufAt] <;> omega

theorem buf_inj {W p j k p' j' k' : Int} (hW : 1 ≤ W) (hp : Bit p) (hj : Bit j) (hk : 0 ≤ k) (hk' : k < 2 + W) (hp' : Bit p') (hj' : Bit j') (gk : 0 ≤ k') (gk' : k' < 2 + W) : bufAt 1 W p j + k = bufAt 1 W p' j' + k' ↔ (p' = p ∧ j' = j ∧ k' = k) := by
  rcases hp with rfl | rfl <;> rcases hj with rfl | rfl <;> rcases hp' with rfl | rfl <;> rcases hj' with rfl | rfl <;> simp [bufAt] <;> omega

section
variable {W : Int} {ms : List Int}

theorem set_buf_buf (hl : (ms.length : Int) = 13 + 4 * W) (hW : 1 ≤ W) {p j k v : Int} (hp : Bit p) (hj : Bit j) (hk : 0 ≤ k) (hk' : k < 2 + W) : ∀ p' j' k', Bit p' → Bit j' → 0 ≤ k' → k' < 2 + W → buff W (ms.set (bufAt 1 W p j + k).toNat v) p' j' k' = if p' = p ∧ j' = j ∧ k' = k then v else buff W ms p' j' k' := by
  intro p' j' k' hp' hj' gk gk'
  have h1 := buf_lo hW hp hj hk hk'
  have h2 := buf_lo hW hp' hj' gk gk'
  have h3 := buf_inj hW hp hj hk hk' hp' hj' gk gk'
  unfold buff
  rw [rd_set]
  by_cases c : p' = p ∧ j' = j ∧ k' = k
  · rw [if_pos c, if_pos ⟨by rw [h3.2 c], by omega⟩]
  · rw [if_neg c, if_neg]
    rintro ⟨h, _⟩
    exact c (h3.1 (by omega))

theorem set_buf_slot (hl : (ms.length : Int) = 13 + 4 * W) (hW : 1 ≤ W) {p j k v : Int} (hp : Bit p) (hj : Bit j) (hk : 0 ≤ k) (hk' : k < 2 + W) : ∀ p', Bit p' → slotf (ms.set (bufAt 1 W p j + k).toNat v) p' = slotf ms p' := by
  intro p' hp'
  have h1 := buf_lo hW hp hj hk hk'
  unfold slotf
  rw [rd_set, if_neg]
  rintro ⟨h, _⟩
  unfold Bit at hp'
  omega

theorem set_buf_lat (hl : (ms.length : Int) = 13 + 4 * W) (hW : 1 ≤ W) {p j k v : Int} (hp : Bit p) (hj : Bit j) (hk : 0 ≤ k) (hk' : k < 2 + W) : rd (ms.set (bufAt 1 W p j + k).toNat v) 1 = rd ms 1 := by
  have h1 := buf_lo hW hp hj hk hk'
  rw [rd_set, if_neg]
  rintro ⟨h, _⟩
  omega

theorem set_buf_rdg (hl : (ms.length : Int) = 13 + 4 * W) (hW : 1 ≤ W) {p j k v : Int} (hp : Bit p) (hj : Bit j) (hk : 0 ≤ k) (hk' : k < 2 + W) : rd (ms.set (bufAt 1 W p j + k).toNat v) (12 + 4 * W).toNat = rd ms (12 + 4 * W).toNat := by
  have h1 := buf_lo hW hp hj hk hk'
  rw [rd_set, if_neg]
  rintro ⟨h, _⟩
  omega

theorem set_slot_buf (hl : (ms.length : Int) = 13 + 4 * W) (hW : 1 ≤ W) {p v : Int} (hp : Bit p) : ∀ p' j' k', Bit p' → Bit j' → 0 ≤ k' → k' < 2 + W → buff W (ms.set (1 + 1 + p).toNat v) p' j' k' = buff W ms p' j' k' := by
  intro p' j' k' hp' hj' gk gk'
  have h2 := buf_lo hW hp' hj' gk gk'
  unfold buff
  rw [rd_set, if_neg]
  rintro ⟨h, _⟩
  unfold Bit at hp
  omega

theorem set_slot_slot (hl : (ms.length : Int) = 13 + 4 * W) (hW : 1 ≤ W) {p v : Int} (hp : Bit p) : ∀ p', Bit p' → slotf (ms.set (1 + 1 + p).toNat v) p' = if p' = p then v else slotf ms p' := by
  intro p' hp'
  unfold slotf
  unfold Bit at hp hp'
  rw [rd_set]
  by_cases c : p' = p
  · rw [if_pos c, if_pos ⟨by rw [c], by omega⟩]
  · rw [if_neg c, if_neg]
    rintro ⟨h, _⟩
    omega

theorem set_slot_lat (hl : (ms.length : Int) = 13 + 4 * W) (hW : 1 ≤ W) {p v : Int} (hp : Bit p) : rd (ms.set (1 + 1 + p).toNat v) 1 = rd ms 1 := by
  unfold Bit at hp
  rw [rd_set, if_neg]
  rintro ⟨h, _⟩
  omega

theorem set_slot_rdg (hl : (ms.length : Int) = 13 + 4 * W) (hW : 1 ≤ W) {p v : Int} (hp : Bit p) : rd (ms.set (1 + 1 + p).toNat v) (12 + 4 * W).toNat = rd ms (12 + 4 * W).toNat := by
  unfold Bit at hp
  rw [rd_set, if_neg]
  rintro ⟨h, _⟩
  omega

theorem set_lat_buf (hl : (ms.length : Int) = 13 + 4 * W) (hW : 1 ≤ W) {v : Int} : ∀ p' j' k', Bit p' → Bit j' → 0 ≤ k' → k' < 2 + W → buff W (ms.set 1 v) p' j' k' = buff W ms p' j' k' := by
  intro p' j' k' hp' hj' gk gk'
  have h2 := buf_lo hW hp' hj' gk gk'
  unfold buff
  rw [rd_set, if_neg]
  rintro ⟨h, _⟩
  omega

theorem set_lat_slot (hl : (ms.length : Int) = 13 + 4 * W) (hW : 1 ≤ W) {v : Int} : ∀ p', Bit p' → slotf (ms.set 1 v) p' = slotf ms p' := by
  intro p' hp'
  unfold slotf
  unfold Bit at hp'
  rw [rd_set, if_neg]
  rintro ⟨h, _⟩
  omega

theorem set_lat_lat (hl : (ms.length : Int) = 13 + 4 * W) (hW : 1 ≤ W) {v : Int} : rd (ms.set 1 v) 1 = v := by
  rw [rd_set, if_pos]
  omega

theorem set_lat_rdg (hl : (ms.length : Int) = 13 + 4 * W) (hW : 1 ≤ W) {v : Int} : rd (ms.set 1 v) (12 + 4 * W).toNat = rd ms (12 + 4 * W).toNat := by
  rw [rd_set, if_neg]
  rintro ⟨h, _⟩
  omega

theorem set_rdg_buf (hl : (ms.length : Int) = 13 + 4 * W) (hW : 1 ≤ W) {v : Int} : ∀ p' j' k', Bit p' → Bit j' → 0 ≤ k' → k' < 2 + W → buff W (ms.set (12 + 4 * W).toNat v) p' j' k' = buff W ms p' j' k' := by
  intro p' j' k' hp' hj' gk gk'
  have h2 := buf_lo hW hp' hj' gk gk'
  unfold buff
  rw [rd_set, if_neg]
  rintro ⟨h, _⟩
  omega

theorem set_rdg_slot (hl : (ms.length : Int) = 13 + 4 * W) (hW : 1 ≤ W) {v : Int} : ∀ p', Bit p' → slotf (ms.set (12 + 4 * W).toNat v) p' = slotf ms p' := by
  intro p' hp'
  unfold slotf
  unfold Bit at hp'
  rw [rd_set, if_neg]
  rintro ⟨h, _⟩
  omega

theorem set_rdg_lat (hl : (ms.length : Int) = 13 + 4 * W) (hW : 1 ≤ W) {v : Int} : rd (ms.set (12 + 4 * W).toNat v) 1 = rd ms 1 := by
  rw [rd_set, if_neg]
  rintro ⟨h, _⟩
  omega

theorem set_rdg_rdg (hl : (ms.length : Int) = 13 + 4 * W) (hW : 1 ≤ W) {v : Int} : rd (ms.set (12 + 4 * W).toNat v) (12 + 4 * W).toNat = v := by
  rw [rd_set, if_pos]
  omega
end

/-- Core and Cont speak only of the slots and the buffers that there are. -/
theorem Core.congr {lat rdg : Int} {slot slot' : Int → Int} {st : Nat} {wp wi : Int} {rs : Nat} {rp ri : Int} (h : Core lat rdg slot st wp wi rs rp ri) (e : ∀ p, Bit p → slot' p = slot p) : Core lat rdg slot' st wp wi rs rp ri := by
  obtain ⟨g1, g2, g3, g4, g5, g6, g7, hs, hr, A, I, B, D, C⟩ := h
  exact { lat01 := g1, rdg01 := g2, slot01 := fun p hp => by rw [e p hp]; exact g3 p hp, wp01 := g4, wi01 := g5, rp01 := g6, ri01 := g7, stl := hs, rsl := hr, A := A, I := by rw [e _ g4]; exact I, B := B, D := D, C := by rw [e _ g6]; exact C }

theorem Cont.congr {W lat : Int} {slot slot' : Int → Int} {buf buf' : Int → Int → Int → Int} {val : Int → Int → Int} {wp wi i : Int} {st rs : Nat} {mk : Bool} {rp ri left : Int} {xs : List Int} {n written marked begun first last steps own : Int}
    (h : Cont W lat slot buf val st wp wi i mk rs rp ri left xs n written marked begun first last steps own) (hW : 1 ≤ W) (hlat : Bit lat) (hwp : Bit wp) (hwi : Bit wi) (hrp : Bit rp)
    (e : ∀ p, Bit p → slot' p = slot p) (eb : ∀ p j k, Bit p → Bit j → 0 ≤ k → k < 2 + W → buf' p j k = buf p j k) :
    Cont W lat slot' buf' val st wp wi i mk rs rp ri left xs n written marked begun first last steps own := by
  obtain ⟨holds, part3, part4, i0, i3, i4, s5, s6, cur, le, cnt5, cnt6, cnt7, st3, st4, st5, st6, n0, n1, mkd, l0, rA, r6, r12, r3, r45, x4, x5, o4, o5⟩ := h
  have hm := Int.emod_lt_of_pos n (show 0 < W by omega)
  exact { holds := fun p j hp hj hn => (holds p j hp hj hn).congr hW fun k hk hk' => eb p j k hp hj hk hk', part3 := fun a => (eb _ _ _ hwp hwi (by decide) (by omega)).trans (part3 a), part4 := fun a j b c => (eb _ _ _ hwp hwi (by omega) (by have := i4 a; omega)).trans (part4 a j b c), i0 := i0, i3 := i3, i4 := i4, s5 := s5, s6 := fun a => by rw [e _ hwp]; exact s6 a, cur := by rw [e _ hlat]; exact cur, le := fun p hp => by rw [e _ hp]; exact le p hp, cnt5 := cnt5, cnt6 := cnt6, cnt7 := cnt7, st3 := st3, st4 := st4, st5 := st5, st6 := st6, n0 := n0, n1 := n1, mkd := mkd, l0 := l0, rA := rA, r6 := r6, r12 := by rw [e _ hrp]; exact r12, r3 := r3, r45 := r45, x4 := x4, x5 := x5, o4 := o4, o5 := o5 }

/-- A play: the memory, where the write and the read stand (7, 6: there is none), the counts. -/
structure PSt where
  ms : List Int
  s : WSt
  q : RSt
  n : Int
  written : Int
  marked : Int
  begun : Int
  first : Int
  last : Int
  steps : Int
  own : Int

def plen (W n : Int) : Nat := (1 + n % W).toNat
def PSt.len (W : Int) (P : PSt) : Nat := plen W P.n

structure PInv (W : Int) (P : PSt) : Prop where
  len : (P.ms.length : Int) = 13 + 4 * W
  ok : MsOk P.ms
  stamp : 0 ≤ P.q.stamp ∧ P.q.stamp ≤ 4294967295
  core : Core (rd P.ms 1) (rd P.ms (12 + 4 * W).toNat) (slotf P.ms) P.s.stage P.s.pair P.s.index P.q.stage P.q.pair P.q.index
  cont : ∃ val, Cont W (rd P.ms 1) (slotf P.ms) (buff W P.ms) val P.s.stage P.s.pair P.s.index P.s.i P.s.marked P.q.stage P.q.pair P.q.index P.q.left P.q.xs P.n P.written P.marked P.begun P.first P.last P.steps P.own

theorem PInv.begin {W : Int} {P : PSt} (h : PInv W P) (hs : P.s.stage = 7) : PInv W { P with s := ⟨0, 0, 0, 0, false⟩, n := P.n + 1, steps := 0 } := by
  obtain ⟨h1, h2, h3, h4, val, h5⟩ := h
  rw [hs] at h4 h5
  exact ⟨h1, h2, h3, h4.begin, val, h5.begin⟩

theorem PInv.beginR {W : Int} {P : PSt} (h : PInv W P) (hs : P.q.stage = 6) : PInv W { P with q := ⟨0, 0, 0, 0, 0, []⟩, begun := P.written, first := P.marked, own := 0 } := by
  obtain ⟨h1, h2, h3, h4, val, h5⟩ := h
  have hl := h4.stl
  rw [hs] at h4 h5
  exact ⟨h1, h2, ⟨Int.le_refl 0, (by decide : (0 : Int) ≤ 4294967295)⟩, h4.beginR, val, h5.beginR hl⟩

/-- One step of the write under way. -/
def PSt.wr (W : Int) (P : PSt) (now : Int) : DidV × WSt × List Int := wstep 1 (12 + 4 * W) W (P.len W) (List.replicate (P.len W) P.n) P.s P.ms now

def PSt.wnext (W : Int) (P : PSt) (now : Int) : PSt :=
  { P with ms := (P.wr W now).2.2, s := (P.wr W now).2.1, marked := if (P.wr W now).1.mark then P.n else P.marked, written := if (P.wr W now).1.done then P.n else P.written, steps := P.steps + 1 }

theorem PInv.len_eq {W : Int} {P : PSt} (h : PInv W P) (hW : 1 ≤ W) : ((P.len W : Nat) : Int) = 1 + P.n % W := by
  have := Int.emod_nonneg P.n (show W ≠ 0 by omega)
  unfold PSt.len plen
  omega

theorem PInv.geo {W : Int} {P : PSt} (h : PInv W P) (hW : 1 ≤ W) (hW' : W ≤ 16) : Geo 1 (12 + 4 * W) W P.ms := by
  have := h.len
  exact ⟨by omega, by omega, by omega, by omega, by omega, by omega⟩

theorem PInv.wok {W : Int} {P : PSt} (h : PInv W P) (hW : 1 ≤ W) : WOk W (P.len W) P.s := by
  have hl := h.len_eq hW
  have hm := Int.emod_lt_of_pos P.n (show 0 < W by omega)
  have hm0 := Int.emod_nonneg P.n (show W ≠ 0 by omega)
  obtain ⟨h1, h2, h3, h4, val, h5⟩ := h
  have a := h4.wp01
  have b := h4.wi01
  unfold Bit at a b
  refine ⟨by omega, by omega, by omega, by omega, h5.i0, fun c => ?_, by omega⟩
  by_cases d : P.s.stage = 4
  · have := h5.i4 d; omega
  · have := h5.i3 (by omega); omega

theorem PInv.rok {W : Int} {P : PSt} (h : PInv W P) (hW : 1 ≤ W) : ROk W P.q := by
  obtain ⟨h1, h2, h3, h4, val, h5⟩ := h
  have a := h4.rp01
  have b := h4.ri01
  unfold Bit at a b
  refine ⟨by omega, by omega, by omega, by omega, fun c => (h5.x5 c).2, fun c => ?_, h3.1, h3.2⟩
  have := h5.r45 (.inr c)
  have := Int.emod_lt_of_pos (val P.q.pair P.q.index) (show 0 < W by omega)
  omega

theorem PInv.steps0 {W : Int} {P : PSt} (h : PInv W P) (hW : 1 ≤ W) (hs : P.s.stage ≤ 6) : 0 ≤ P.steps := by
  have hm0 := Int.emod_nonneg P.n (show W ≠ 0 by omega)
  obtain ⟨_, _, _, _, _, c⟩ := h
  have i0 := c.i0
  by_cases a : P.s.stage ≤ 3
  · have := c.st3 a; omega
  by_cases b : P.s.stage = 4
  · have := c.st4 b; omega
  by_cases d : P.s.stage = 5
  · have := c.st5 d; omega
  · have := c.st6 (by omega); omega

theorem PInv.own0 {W : Int} {P : PSt} (h : PInv W P) (hs : P.q.stage ≤ 5) : 0 ≤ P.own := by
  obtain ⟨_, _, _, _, _, c⟩ := h
  by_cases a : P.q.stage ≤ 4
  · have := c.o4 a; omega
  · have := c.o5 (by omega); omega

theorem PInv.nat2 {W : Int} {P : PSt} (h : PInv W P) : P.marked ≤ P.n := by
  have l := h.core.stl
  obtain ⟨_, _, _, _, _, c⟩ := h
  by_cases a : P.s.stage ≤ 5
  · have := c.cnt5 a; omega
  by_cases b : P.s.stage = 6
  · have q := (c.cnt6 b).2
    cases hm : P.s.marked
    · have := q.2 hm; omega
    · have := q.1 hm; omega
  · have := c.cnt7 (by omega); omega

theorem PInv.nat {W : Int} {P : PSt} (h : PInv W P) : 0 ≤ P.n := h.cont.elim fun _ c => c.n0

/-- What a step of the write tells is what the law asks for. -/
structure WGood (W : Int) (P : PSt) (now : Int) : Prop where
  code : (P.wr W now).1.code = 0
  ended : (P.wr W now).1.done = true → P.steps + 1 = 1 + P.n % W + 6 ∧ (if (P.wr W now).1.mark then P.n else P.marked) = P.n
  going : (P.wr W now).1.done = false → P.steps + 1 < 40
  stage : (P.wr W now).1.done = true ↔ (P.wr W now).2.1.stage = 7


theorem PInv.write {W : Int} {P : PSt} (h : PInv W P) (hW : 1 ≤ W) (hW' : W ≤ 16) (hs : P.s.stage ≤ 6) (now : Int) (hn0 : 0 ≤ now) (hn1 : now ≤ 4294967295) (hnn : P.n ≤ 4294967295) : PInv W (P.wnext W now) ∧ WGood W P now := by
  have hlen := h.len_eq hW
  have hm := Int.emod_lt_of_pos P.n (show 0 < W by omega)
  have hm0 := Int.emod_nonneg P.n (show W ≠ 0 by omega)
  have hn := h.nat
  obtain ⟨ms, ⟨st, wp, wi, i, mk⟩, q, n, written, marked, begun, first, last, steps, own⟩ := P
  obtain ⟨h1, h2, h3, h4, val, h5⟩ := h
  dsimp only at h1 h2 h3 h4 h5 hlen hs hm hm0 hn hnn
  have w01 := h4.wp01
  have i01 := h4.wi01
  have l01 := h4.lat01
  have r01 := h4.rp01
  generalize hL : PSt.len W { ms := ms, s := ⟨st, wp, wi, i, mk⟩, q := q, n := n, written := written, marked := marked, begun := begun, first := first, last := last, steps := steps, own := own : PSt } = L at *
  match st, hs with
  | 0, _ =>
    have e : PSt.wr W { ms := ms, s := ⟨0, wp, wi, i, mk⟩, q := q, n := n, written := written, marked := marked, begun := begun, first := first, last := last, steps := steps, own := own : PSt } now = ({}, ⟨1, 1 - rd ms (12 + 4 * W).toNat % 2, wi, i, mk⟩, ms) := rfl
    refine ⟨?_, (by rw [e]), (by rw [e]; intro a; cases a), ?_, (by rw [e]; simp)⟩
    · unfold PSt.wnext; rw [e]
      exact ⟨h1, h2, h3, h4.choose rfl, val, h5.choose⟩
    · intro _; have := h5.st3 (by decide); dsimp only; omega
  | 1, _ =>
    have e : PSt.wr W { ms := ms, s := ⟨1, wp, wi, i, mk⟩, q := q, n := n, written := written, marked := marked, begun := begun, first := first, last := last, steps := steps, own := own : PSt } now = ({}, ⟨2, wp, 1 - slotf ms wp % 2, i, mk⟩, ms) := rfl
    refine ⟨?_, (by rw [e]), (by rw [e]; intro a; cases a), ?_, (by rw [e]; simp)⟩
    · unfold PSt.wnext; rw [e]
      exact ⟨h1, h2, h3, h4.other rfl, val, h5.other⟩
    · intro _; have := h5.st3 (by decide); dsimp only; omega
  | 2, _ =>
    have e : PSt.wr W { ms := ms, s := ⟨2, wp, wi, i, mk⟩, q := q, n := n, written := written, marked := marked, begun := begun, first := first, last := last, steps := steps, own := own : PSt } now = ({ buffer := 1 + (2 * wp + wi) }, ⟨3, wp, wi, i, mk⟩, ms.set (bufAt 1 W wp wi + 0).toNat (1 + n % W)) := by
      unfold PSt.wr; rw [hL]; simp only [wstep, hlen, Int.add_zero]
    refine ⟨?_, (by rw [e]), (by rw [e]; intro a; cases a), ?_, (by rw [e]; simp)⟩
    · unfold PSt.wnext; rw [e]
      have k1 : (0 : Int) ≤ 0 := by omega
      have k2 : (0 : Int) < 2 + W := by omega
      refine ⟨by simpa using h1, h2.set (by omega) (by omega) _, h3, ?_, val, ?_⟩
      · dsimp only
        rw [set_buf_lat h1 hW w01 i01 k1 k2, set_buf_rdg h1 hW w01 i01 k1 k2]
        exact (h4.fill (by omega) (by omega) (by omega) (by omega)).congr (set_buf_slot h1 hW w01 i01 k1 k2)
      · dsimp only
        rw [set_buf_lat h1 hW w01 i01 k1 k2]
        exact (h5.length hW w01 i01 (set_buf_buf h1 hW w01 i01 k1 k2)).congr hW l01 w01 i01 r01 (set_buf_slot h1 hW w01 i01 k1 k2) (fun _ _ _ _ _ _ _ => rfl)
    · intro _; have := h5.st3 (by decide); dsimp only; omega
  | 3, _ =>
    have e : PSt.wr W { ms := ms, s := ⟨3, wp, wi, i, mk⟩, q := q, n := n, written := written, marked := marked, begun := begun, first := first, last := last, steps := steps, own := own : PSt } now = ({ stamped := true }, ⟨4, wp, wi, i, mk⟩, ms.set (bufAt 1 W wp wi + 1).toNat now) := rfl
    refine ⟨?_, (by rw [e]), (by rw [e]; intro a; cases a), ?_, (by rw [e]; simp)⟩
    · unfold PSt.wnext; rw [e]
      have k1 : (0 : Int) ≤ 1 := by omega
      have k2 : (1 : Int) < 2 + W := by omega
      refine ⟨by simpa using h1, h2.set (by omega) (by omega) _, h3, ?_, val, ?_⟩
      · dsimp only
        rw [set_buf_lat h1 hW w01 i01 k1 k2, set_buf_rdg h1 hW w01 i01 k1 k2]
        exact (h4.fill (by omega) (by omega) (by omega) (by omega)).congr (set_buf_slot h1 hW w01 i01 k1 k2)
      · dsimp only
        rw [set_buf_lat h1 hW w01 i01 k1 k2]
        exact (h5.stamp hW w01 i01 (set_buf_buf h1 hW w01 i01 k1 k2)).congr hW l01 w01 i01 r01 (set_buf_slot h1 hW w01 i01 k1 k2) (fun _ _ _ _ _ _ _ => rfl)
    · intro _; have := h5.st3 (by decide); dsimp only; omega
  | 4, _ =>
    have j0 := h5.i0
    have j1 := h5.i4 rfl
    have hx : rd (List.replicate L n) i.toNat = n := by
      unfold rd
      rw [List.getD_eq_getElem?_getD, List.getElem?_replicate, if_pos (by omega)]
      rfl
    have k1 : (0 : Int) ≤ 2 + i := by omega
    have k2 : 2 + i < 2 + W := by omega
    by_cases more : i + 1 < 1 + n % W
    · have e : PSt.wr W { ms := ms, s := ⟨4, wp, wi, i, mk⟩, q := q, n := n, written := written, marked := marked, begun := begun, first := first, last := last, steps := steps, own := own : PSt } now = ({}, ⟨4, wp, wi, i + 1, mk⟩, ms.set (bufAt 1 W wp wi + (2 + i)).toNat n) := by
        unfold PSt.wr; rw [hL]; simp only [wstep, hlen, hx, if_pos more, Int.add_assoc]
      refine ⟨?_, (by rw [e]), (by rw [e]; intro a; cases a), ?_, (by rw [e]; simp)⟩
      · unfold PSt.wnext; rw [e]
        refine ⟨by simpa using h1, h2.set (by omega) (by omega) _, h3, ?_, val, ?_⟩
        · dsimp only
          rw [set_buf_lat h1 hW w01 i01 k1 k2, set_buf_rdg h1 hW w01 i01 k1 k2]
          exact (h4.fill (by omega) (by omega) (by omega) (by omega)).congr (set_buf_slot h1 hW w01 i01 k1 k2)
        · dsimp only
          rw [set_buf_lat h1 hW w01 i01 k1 k2]
          exact (h5.word hW w01 i01 more (set_buf_buf h1 hW w01 i01 k1 k2)).congr hW l01 w01 i01 r01 (set_buf_slot h1 hW w01 i01 k1 k2) (fun _ _ _ _ _ _ _ => rfl)
      · intro _; have := h5.st4 rfl; dsimp only; omega
    · have e : PSt.wr W { ms := ms, s := ⟨4, wp, wi, i, mk⟩, q := q, n := n, written := written, marked := marked, begun := begun, first := first, last := last, steps := steps, own := own : PSt } now = ({}, ⟨5, wp, wi, i + 1, mk⟩, ms.set (bufAt 1 W wp wi + (2 + i)).toNat n) := by
        unfold PSt.wr; rw [hL]; simp only [wstep, hlen, hx, if_neg more, Int.add_assoc]
      have hsl : slotf ms wp ≠ wi := by have := h4.I (by decide) (by decide); have := h4.slot01 _ w01; unfold Bit at this; omega
      refine ⟨?_, (by rw [e]), (by rw [e]; intro a; cases a), ?_, (by rw [e]; simp)⟩
      · unfold PSt.wnext; rw [e]
        refine ⟨by simpa using h1, h2.set (by omega) (by omega) _, h3, ?_, (fun p j => if p = wp ∧ j = wi then n else val p j), ?_⟩
        · dsimp only
          rw [set_buf_lat h1 hW w01 i01 k1 k2, set_buf_rdg h1 hW w01 i01 k1 k2]
          exact (h4.fill (by omega) (by omega) (by omega) (by omega)).congr (set_buf_slot h1 hW w01 i01 k1 k2)
        · dsimp only
          rw [set_buf_lat h1 hW w01 i01 k1 k2]
          exact (h5.wordLast hW w01 i01 more (fun a b => h4.apart (by decide) (by decide) a b) hsl (set_buf_buf h1 hW w01 i01 k1 k2)).congr hW l01 w01 i01 r01 (set_buf_slot h1 hW w01 i01 k1 k2) (fun _ _ _ _ _ _ _ => rfl)
      · intro _; have := h5.st4 rfl; dsimp only; omega
  | 5, _ =>
    have e : PSt.wr W { ms := ms, s := ⟨5, wp, wi, i, mk⟩, q := q, n := n, written := written, marked := marked, begun := begun, first := first, last := last, steps := steps, own := own : PSt } now = ({ mark := rd ms 1 % 2 == wp }, ⟨6, wp, wi, i, rd ms 1 % 2 == wp⟩, ms.set (1 + 1 + wp).toNat wi) := rfl
    refine ⟨?_, (by rw [e]), (by rw [e]; intro a; cases a), ?_, (by rw [e]; simp)⟩
    · unfold PSt.wnext; rw [e]
      refine ⟨by simpa using h1, h2.set (by unfold Bit at i01; omega) (by unfold Bit at i01; omega) _, h3, ?_, val, ?_⟩
      · dsimp only
        rw [set_slot_lat h1 hW w01, set_slot_rdg h1 hW w01]
        exact h4.show (set_slot_slot h1 hW w01)
      · dsimp only
        rw [set_slot_lat h1 hW w01]
        exact (h5.shown w01 l01 r01 (set_slot_slot h1 hW w01) rfl).congr hW l01 w01 i01 r01 (fun _ _ => rfl) (set_slot_buf h1 hW w01)
    · intro _; have := h5.st5 rfl; dsimp only; omega
  | 6, _ =>
    have e : PSt.wr W { ms := ms, s := ⟨6, wp, wi, i, mk⟩, q := q, n := n, written := written, marked := marked, begun := begun, first := first, last := last, steps := steps, own := own : PSt } now = ({ done := true, mark := !mk }, ⟨7, wp, wi, i, mk⟩, ms.set 1 wp) := rfl
    have hmk : mk = true → rd ms 1 = wp := h5.mkd rfl
    refine ⟨?_, (by rw [e]), ?_, (by rw [e]; intro a; cases a), (by rw [e]; simp)⟩
    · unfold PSt.wnext; rw [e]
      refine ⟨by simpa using h1, h2.set (by unfold Bit at w01; omega) (by unfold Bit at w01; omega) _, h3, ?_, val, ?_⟩
      · dsimp only
        rw [set_lat_lat h1 hW, set_lat_rdg h1 hW]
        exact h4.end.congr (set_lat_slot h1 hW)
      · dsimp only
        rw [set_lat_lat h1 hW]
        exact (h5.ended w01 hmk (by cases mk <;> simp)).congr hW w01 w01 i01 r01 (set_lat_slot h1 hW) (set_lat_buf h1 hW)
    · rw [e]
      intro _
      have a := h5.st6 rfl
      have b := h5.cnt6 rfl
      refine ⟨by dsimp only; omega, ?_⟩
      dsimp only
      cases mk
      · rfl
      · exact b.2.1 rfl
  | k + 7, h => omega

/-- One step of the read under way. -/
def PSt.rd (W : Int) (P : PSt) : RSt × List Int := rstep 1 (12 + 4 * W) W P.q P.ms

/-- Where the play stands behind a step of the read that is not the last. -/
def PSt.rnext (W : Int) (P : PSt) : PSt := { P with ms := (P.rd W).2, q := (P.rd W).1, own := P.own + 1 }

/-- What a step of the read comes to: it goes on; it finds nothing; it finds message v whole. -/
inductive RGood (W per : Int) (P : PSt) (now : Int) : Prop where
  | going (hq : (P.rd W).1.stage ≤ 5) (hd : ∀ da dc, (rdid 1 W per P.q P.ms now da dc).done = false) (ho : P.own + 1 < 40) (hi : PInv W (P.rnext W))
  | none (hq : (P.rd W).1.stage = 6) (hx : (P.rd W).1.xs = []) (hd : ∀ da dc, rdid 1 W per P.q P.ms now da dc = { done := true, code := 1, buffer := 1 + (2 * P.q.pair + P.q.index) })
      (hb : P.begun = 0 ∧ P.first = 0 ∧ P.last = 0 ∧ P.own + 1 = 4) (hi : PInv W (P.rnext W))
  | found (v : Int) (k : Nat) (hq : (P.rd W).1.stage = 6) (hx : (P.rd W).1.xs = List.replicate (k + 1) v) (hd : ∀ da dc, rdid 1 W per P.q P.ms now da dc = { done := true, da := da, dn := k + 1, dc := dc, valid := decide (now - P.q.stamp ≤ per) })
      (hb : P.begun ≤ v ∧ P.first ≤ v ∧ P.last ≤ v ∧ 1 ≤ v ∧ v ≤ P.marked ∧ (k : Int) + 1 = 1 + v % W ∧ P.own + 1 = k + 1 + 5) (hi : PInv W { P.rnext W with last := v })

theorem PInv.read {W : Int} {P : PSt} (h : PInv W P) (hW : 1 ≤ W) (hW' : W ≤ 16) (hs : P.q.stage ≤ 5) (per now : Int) : RGood W per P now := by
  obtain ⟨ms, s, ⟨rs, rp, ri, left, stamp, xs⟩, n, written, marked, begun, first, last, steps, own⟩ := P
  obtain ⟨h1, h2, h3, h4, val, h5⟩ := h
  dsimp only at h1 h2 h3 h4 h5 hs
  have w01 := h4.wp01
  have i01 := h4.wi01
  have l01 := h4.lat01
  have r01 := h4.rp01
  have ri01 := h4.ri01
  have hh : 3 ≤ rs → Holds W (buff W ms rp ri) (val rp ri) := fun a => h5.holds rp ri r01 ri01 (fun c => h4.apart (by omega) (by omega) a hs ⟨c.2.1, c.2.2⟩)
  match rs, hs with
  | 0, _ =>
    refine .going (show 1 ≤ 5 by decide) (fun _ _ => rfl) (by have := h5.o4 (by decide); dsimp only; omega) ?_
    exact ⟨h1, h2, h3, h4.latest rfl, val, h5.latest l01 rfl⟩
  | 1, _ =>
    refine .going (show 2 ≤ 5 by decide) (fun _ _ => rfl) (by have := h5.o4 (by decide); dsimp only; omega) ?_
    refine ⟨by simpa [PSt.rnext, PSt.rd, rstep] using h1, h2.set (v := rp) (by unfold Bit at r01; omega) (by unfold Bit at r01; omega) _, h3, ?_, val, ?_⟩
    · show Core (rd (ms.set (12 + 4 * W).toNat rp) 1) (rd (ms.set (12 + 4 * W).toNat rp) (12 + 4 * W).toNat) (slotf (ms.set (12 + 4 * W).toNat rp)) _ _ _ _ _ _
      rw [set_rdg_lat h1 hW, set_rdg_rdg h1 hW]
      exact h4.tell.congr (set_rdg_slot h1 hW)
    · show Cont W (rd (ms.set (12 + 4 * W).toNat rp) 1) (slotf (ms.set (12 + 4 * W).toNat rp)) (buff W (ms.set (12 + 4 * W).toNat rp)) val _ _ _ _ _ _ _ _ _ _ _ _ _ _ _ _ _ _
      rw [set_rdg_lat h1 hW]
      exact h5.tell.congr hW l01 w01 i01 r01 (set_rdg_slot h1 hW) (set_rdg_buf h1 hW)
  | 2, _ =>
    refine .going (show 3 ≤ 5 by decide) (fun _ _ => rfl) (by have := h5.o4 (by decide); dsimp only; omega) ?_
    refine ⟨h1, h2, h3, h4.newer rfl, val, h5.newer r01 (h4.slot01 _ r01) (fun a b => ?_) rfl⟩
    have d := h4.D (by decide) (by decide)
    exact (h4.A (by omega) (by omega) (b.trans d.symm)).trans b
  | 3, _ =>
    have e0 : rd ms (bufAt 1 W rp ri).toNat = buff W ms rp ri 0 := by unfold buff; rw [Int.add_zero]
    by_cases hz : buff W ms rp ri 0 = 0
    · have a := h5.lenNone hW (hh (by decide)) hz
      have e : PSt.rd W { ms := ms, s := s, q := ⟨3, rp, ri, left, stamp, xs⟩, n := n, written := written, marked := marked, begun := begun, first := first, last := last, steps := steps, own := own : PSt } = (⟨6, rp, ri, left, stamp, xs⟩, ms) := by simp [PSt.rd, rstep, e0, hz]
      refine .none (by rw [e]) (by rw [e]; exact h5.x4 (by decide)) (fun _ _ => by simp [rdid, e0, hz]) a.1 ?_
      unfold PSt.rnext; rw [e]
      exact ⟨h1, h2, h3, h4.look (rs' := 6) (by decide) (by decide) (by decide) (by decide), val, a.2⟩
    · have a := h5.lenSome hW (hh (by decide)) hz
      have e : PSt.rd W { ms := ms, s := s, q := ⟨3, rp, ri, left, stamp, xs⟩, n := n, written := written, marked := marked, begun := begun, first := first, last := last, steps := steps, own := own : PSt } = (⟨4, rp, ri, buff W ms rp ri 0, stamp, xs⟩, ms) := by simp [PSt.rd, rstep, e0, hz, a.1]
      refine .going (by rw [e]; exact (show 4 ≤ 5 by decide)) (fun _ _ => by simp [rdid, e0, hz]) (by have := h5.o4 (by decide); dsimp only; omega) ?_
      unfold PSt.rnext; rw [e]
      exact ⟨h1, h2, h3, h4.look (rs' := 4) (by decide) (by decide) (by decide) (by decide), val, a.2⟩
  | 4, _ =>
    refine .going (show 5 ≤ 5 by decide) (fun _ _ => rfl) (by have := h5.o4 (by decide); dsimp only; omega) ?_
    exact ⟨h1, h2, h2 _, h4.look (rs' := 5) (by decide) (by decide) (by decide) (by decide), val, h5.when hW⟩
  | 5, _ =>
    have ow := h5.o5 rfl
    have q := h5.r45 (.inr rfl)
    have hx := h5.x5 rfl
    have hm := Int.emod_lt_of_pos (val rp ri) (show 0 < W by omega)
    have e0 : rd ms (bufAt 1 W rp ri + 2 + xs.length).toNat = buff W ms rp ri (2 + xs.length) := by unfold buff; rw [Int.add_assoc]
    by_cases more : (xs.length : Int) + 1 < left
    · have e : PSt.rd W { ms := ms, s := s, q := ⟨5, rp, ri, left, stamp, xs⟩, n := n, written := written, marked := marked, begun := begun, first := first, last := last, steps := steps, own := own : PSt } = (⟨5, rp, ri, left, stamp, xs ++ [buff W ms rp ri (2 + xs.length)]⟩, ms) := by simp [PSt.rd, rstep, e0, more]
      refine .going (by rw [e]; exact (show 5 ≤ 5 by decide)) (fun _ _ => by simp [rdid, more]) (by dsimp only; omega) ?_
      unfold PSt.rnext; rw [e]
      exact ⟨h1, h2, h3, h4.look (rs' := 5) (by decide) (by decide) (by decide) (by decide), val, h5.wordR (hh (by decide)) more⟩
    · have e : PSt.rd W { ms := ms, s := s, q := ⟨5, rp, ri, left, stamp, xs⟩, n := n, written := written, marked := marked, begun := begun, first := first, last := last, steps := steps, own := own : PSt } = (⟨6, rp, ri, left, stamp, xs ++ [buff W ms rp ri (2 + xs.length)]⟩, ms) := by simp [PSt.rd, rstep, e0, more]
      obtain ⟨v, a1, a2, a3, a4, a5, a6, a7, a8, a9⟩ := h5.wordEnd (hh (by decide)) more (l' := xs ++ [buff W ms rp ri (2 + xs.length)]) (own' := own + 1)
      refine .found v xs.length (by rw [e]) (by rw [e]; exact a1) (fun _ _ => by simp [rdid, more]) ⟨a2, a3, a4, a5, a6, a7, a8⟩ ?_
      unfold PSt.rnext; rw [e]
      exact ⟨h1, h2, h3, h4.look (rs' := 6) (by decide) (by decide) (by decide) (by decide), val, a9⟩
  | k + 6, h => omega

end Go.Proofs.Ytpkjffiajidfcaa

/- Where a play stands in memory; one step of its write, of its read. -/
namespace Go.Proofs.Ytpkjffiajidfcaa
open Go.RowKit

def wadr (wb : Nat) (s : WSt) : Option Addr := if s.stage = 7 then none else some ⟨wb, 0, none⟩
def radr (rb : Nat) (q : RSt) : Option Addr := if q.stage = 6 then none else some ⟨rb, 0, none⟩

theorem wadr_nil {wb : Nat} {s : WSt} (h : s.stage = 7) : wadr wb s = none := if_pos h
theorem wadr_on {wb : Nat} {s : WSt} (h : s.stage ≠ 7) : wadr wb s = some ⟨wb, 0, none⟩ := if_neg h
theorem radr_nil {rb : Nat} {q : RSt} (h : q.stage = 6) : radr rb q = none := if_pos h
theorem radr_on {rb : Nat} {q : RSt} (h : q.stage ≠ 6) : radr rb q = some ⟨rb, 0, none⟩ := if_neg h

/-- The block of the words that a read has found. -/
def rown (da : Option Addr) (dc : Nat) (q : RSt) : Option Nat := (Value.slice da q.xs.length dc).ownBlock

structure WPart (w : World) (base : Nat) (c : CfgV) (pl bm bw wb wbd cap : Nat) (W per : Int) (n : Int) (s : WSt) : Prop where
  at_ : WrAt w wb wbd (plen W n) cap 1 (12 + 4 * W) W per (List.replicate (plen W n) n) s
  low : base ≤ wb ∧ base ≤ wbd
  wb1 : wb ≠ pl ∧ wb ≠ bm ∧ wb ≠ bw
  wd1 : wbd ≠ pl ∧ wbd ≠ bm ∧ wbd ≠ bw
  cfg : ∀ x, x ∈ c.blocks → x ≠ wb ∧ x ≠ wbd

structure RPart (w : World) (base : Nat) (c : CfgV) (pl bm bw rb : Nat) (da : Option Addr) (dc : Nat) (W per : Int) (q : RSt) : Prop where
  at_ : RdAt w rb da dc 1 (12 + 4 * W) W per q
  low : base ≤ rb
  rb1 : rb ≠ pl ∧ rb ≠ bm ∧ rb ≠ bw
  own : ∀ x, rown da dc q = some x → base ≤ x ∧ x ≠ pl ∧ x ≠ bm ∧ x ≠ bw ∧ x ≠ rb
  cfg : ∀ x, x ∈ c.blocks → x ≠ rb ∧ rown da dc q ≠ some x

/-- All that a play has in memory, but for its own block. -/
structure Parts (w : World) (base : Nat) (c : CfgV) (pl bm bw wb wbd cap rb : Nat) (da : Option Addr) (dc : Nat) (W per : Int) (P : PSt) : Prop where
  mem : MemAt w bm bw P.ms
  cfg : CfgAt w c
  cfgl : ∀ x, x ∈ c.blocks → x < w.heap.size
  low : base ≤ pl ∧ base ≤ bm ∧ base ≤ bw
  p1 : pl ≠ bm ∧ pl ≠ bw
  pc : ∀ x, x ∈ c.blocks → x ≠ pl ∧ x ≠ bm ∧ x ≠ bw
  wr : P.s.stage ≠ 7 → WPart w base c pl bm bw wb wbd cap W per P.n P.s
  rd : P.q.stage ≠ 6 → RPart w base c pl bm bw rb da dc W per P.q
  wrd : P.s.stage ≠ 7 → P.q.stage ≠ 6 → wb ≠ rb ∧ wbd ≠ rb ∧ ∀ x, rown da dc P.q = some x → x ≠ wb ∧ x ≠ wbd

theorem rown_lt {w : World} {da : Option Addr} {dc b : Nat} {src rdg wds per : Int} {q : RSt} (h : RdAt w b da dc src rdg wds per q) {x : Nat} (hx : rown da dc q = some x) : x < w.heap.size := by
  rcases Nat.lt_or_ge x w.heap.size with a | a
  · exact a
  · exact absurd hx.symm (ownsRow_old h.data a)

theorem lt_of_cell {w : World} {b o : Nat} {v : Value} (h : w.cell? ⟨b, o, none⟩ = some v) : b < w.heap.size := by
  rcases Nat.lt_or_ge b w.heap.size with a | a
  · exact a
  · simp [World.cell?, Array.getElem?_eq_none a] at h

theorem Blk.drewN {w : World} {b : Nat} {vs : Array Value} {t : TypeId} (h : Blk w b vs t) (n : Nat) : Blk (w.drewN n) b vs t := h

/-- A block of nine cells that is written whole. -/
theorem Blk.nine {w : World} {b : Nat} {t : TypeId} {x0 x1 x2 x3 x4 x5 x6 x7 x8 y0 y1 y2 y3 y4 y5 y6 y7 y8 : Value} (h : Blk w b #[x0, x1, x2, x3, x4, x5, x6, x7, x8] t) : Blk (((((((((w.setCell ⟨b, 0, none⟩ y0).setCell ⟨b, 1, none⟩ y1).setCell ⟨b, 2, none⟩ y2).setCell ⟨b, 3, none⟩ y3).setCell ⟨b, 4, none⟩ y4).setCell ⟨b, 5, none⟩ y5).setCell ⟨b, 6, none⟩ y6).setCell ⟨b, 7, none⟩ y7).setCell ⟨b, 8, none⟩ y8) b #[y0, y1, y2, y3, y4, y5, y6, y7, y8] t := by
  have e := ((((((((h.set 0 y0).set 1 y1).set 2 y2).set 3 y3).set 4 y4).set 5 y5).set 6 y6).set 7 y7).set 8 y8
  simpa only [List.setIfInBounds_toArray, List.set_cons_zero, List.set_cons_succ] using e

theorem Blk.pl_wv {w : World} {pl bm : Nat} {c : CfgV} {t : TypeId} {wv rv : Value} {n written marked begun first last steps own : Int} (h : Blk w pl (plCells c bm wv rv n written marked begun first last steps own) t) (x : Value) :
    Blk (w.setCell ⟨pl, 7, none⟩ x) pl (plCells c bm x rv n written marked begun first last steps own) t := h.setTo rfl
theorem Blk.pl_rv {w : World} {pl bm : Nat} {c : CfgV} {t : TypeId} {wv rv : Value} {n written marked begun first last steps own : Int} (h : Blk w pl (plCells c bm wv rv n written marked begun first last steps own) t) (x : Value) :
    Blk (w.setCell ⟨pl, 8, none⟩ x) pl (plCells c bm wv x n written marked begun first last steps own) t := h.setTo rfl
theorem Blk.pl_written {w : World} {pl bm : Nat} {c : CfgV} {t : TypeId} {wv rv : Value} {n written marked begun first last steps own : Int} (h : Blk w pl (plCells c bm wv rv n written marked begun first last steps own) t) (x : Int) :
    Blk (w.setCell ⟨pl, 10, none⟩ (.int .u32 x)) pl (plCells c bm wv rv n x marked begun first last steps own) t := h.setTo rfl
theorem Blk.pl_marked {w : World} {pl bm : Nat} {c : CfgV} {t : TypeId} {wv rv : Value} {n written marked begun first last steps own : Int} (h : Blk w pl (plCells c bm wv rv n written marked begun first last steps own) t) (x : Int) :
    Blk (w.setCell ⟨pl, 11, none⟩ (.int .u32 x)) pl (plCells c bm wv rv n written x begun first last steps own) t := h.setTo rfl
theorem Blk.pl_begun {w : World} {pl bm : Nat} {c : CfgV} {t : TypeId} {wv rv : Value} {n written marked begun first last steps own : Int} (h : Blk w pl (plCells c bm wv rv n written marked begun first last steps own) t) (x : Int) :
    Blk (w.setCell ⟨pl, 12, none⟩ (.int .u32 x)) pl (plCells c bm wv rv n written marked x first last steps own) t := h.setTo rfl
theorem Blk.pl_first {w : World} {pl bm : Nat} {c : CfgV} {t : TypeId} {wv rv : Value} {n written marked begun first last steps own : Int} (h : Blk w pl (plCells c bm wv rv n written marked begun first last steps own) t) (x : Int) :
    Blk (w.setCell ⟨pl, 13, none⟩ (.int .u32 x)) pl (plCells c bm wv rv n written marked begun x last steps own) t := h.setTo rfl
theorem Blk.pl_last {w : World} {pl bm : Nat} {c : CfgV} {t : TypeId} {wv rv : Value} {n written marked begun first last steps own : Int} (h : Blk w pl (plCells c bm wv rv n written marked begun first last steps own) t) (x : Int) :
    Blk (w.setCell ⟨pl, 14, none⟩ (.int .u32 x)) pl (plCells c bm wv rv n written marked begun first x steps own) t := h.setTo rfl
theorem Blk.pl_steps {w : World} {pl bm : Nat} {c : CfgV} {t : TypeId} {wv rv : Value} {n written marked begun first last steps own : Int} (h : Blk w pl (plCells c bm wv rv n written marked begun first last steps own) t) (x : Int) :
    Blk (w.setCell ⟨pl, 15, none⟩ (.int .i64 x)) pl (plCells c bm wv rv n written marked begun first last x own) t := h.setTo rfl
theorem Blk.pl_own {w : World} {pl bm : Nat} {c : CfgV} {t : TypeId} {wv rv : Value} {n written marked begun first last steps own : Int} (h : Blk w pl (plCells c bm wv rv n written marked begun first last steps own) t) (x : Int) :
    Blk (w.setCell ⟨pl, 16, none⟩ (.int .i64 x)) pl (plCells c bm wv rv n written marked begun first last steps x) t := h.setTo rfl

/-- A block that is none of a play's. -/
structure Off (c : CfgV) (bm bw wb wbd rb : Nat) (da : Option Addr) (dc : Nat) (P : PSt) (x : Nat) : Prop where
  mem : bm ≠ x ∧ bw ≠ x
  cfg : x ∉ c.blocks
  wr : P.s.stage ≠ 7 → wb ≠ x ∧ wbd ≠ x
  rd : P.q.stage ≠ 6 → rb ≠ x ∧ rown da dc P.q ≠ some x

theorem Parts.off {w : World} {base : Nat} {c : CfgV} {pl bm bw wb wbd cap rb : Nat} {da : Option Addr} {dc : Nat} {W per : Int} {P : PSt} (h : Parts w base c pl bm bw wb wbd cap rb da dc W per P) {x : Nat} (hx : w.heap.size ≤ x) : Off c bm bw wb wbd rb da dc P x := by
  refine ⟨?_, fun a => ?_, fun a => ?_, fun a => ?_⟩
  · have := h.mem.hm.lt; have := h.mem.hw.lt; omega
  · have := h.cfgl x a; omega
  · have q := (h.wr a).at_; have := q.obj.lt; have := q.data.elim fun _ d => d.1.lt; omega
  · have q := (h.rd a).at_; have := q.obj.lt; exact ⟨by omega, fun e => by have := rown_lt q e; omega⟩

/-- What writes to the play's own block, or to others, leaves the rest as it was. -/
theorem Parts.keepOff {w w' : World} {base : Nat} {c : CfgV} {pl bm bw wb wbd cap rb : Nat} {da : Option Addr} {dc : Nat} {W per : Int} {P : PSt} {l : List Nat} (h : Parts w base c pl bm bw wb wbd cap rb da dc W per P)
    (k : Keeps l w w') (hl : ∀ x, x ∈ l → x = pl ∨ Off c bm bw wb wbd rb da dc P x) : Parts w' base c pl bm bw wb wbd cap rb da dc W per P := by
  refine ⟨h.mem.keep k (fun a => ?_) (fun a => ?_), h.cfg.keep k (fun x a b => ?_), fun x a => Nat.lt_of_lt_of_le (h.cfgl x a) k.size, h.low, h.p1, h.pc, fun a => ?_, fun a => ?_, h.wrd⟩
  · rcases hl _ a with d | d; exact h.p1.1 d.symm; exact d.mem.1 rfl
  · rcases hl _ a with d | d; exact h.p1.2 d.symm; exact d.mem.2 rfl
  · rcases hl _ b with d | d; exact (h.pc x a).1 d; exact d.cfg a
  · have q := h.wr a
    refine { q with at_ := q.at_.keep k (fun b => ?_) (fun b => ?_) }
    · rcases hl _ b with d | d; exact q.wb1.1 d; exact (d.wr a).1 rfl
    · rcases hl _ b with d | d; exact q.wd1.1 d; exact (d.wr a).2 rfl
  · have q := h.rd a
    refine { q with at_ := q.at_.keep k (fun b => ?_) (fun x hx b => ?_) }
    · rcases hl _ b with d | d; exact q.rb1.1 d; exact (d.rd a).1 rfl
    · rcases hl _ b with d | d; exact (q.own x hx).2.1 d; exact (d.rd a).2 hx

theorem Parts.keep {w w' : World} {base : Nat} {c : CfgV} {pl bm bw wb wbd cap rb : Nat} {da : Option Addr} {dc : Nat} {W per : Int} {P : PSt} {l : List Nat} (h : Parts w base c pl bm bw wb wbd cap rb da dc W per P)
    (k : Keeps l w w') (hl : ∀ x, x ∈ l → x = pl ∨ w.heap.size ≤ x) : Parts w' base c pl bm bw wb wbd cap rb da dc W per P :=
  h.keepOff k fun x a => (hl x a).imp id h.off

/-- The counts of a play stand in its own block alone. -/
theorem Parts.counts {w : World} {base : Nat} {c : CfgV} {pl bm bw wb wbd cap rb : Nat} {da : Option Addr} {dc : Nat} {W per : Int} {P P' : PSt} (h : Parts w base c pl bm bw wb wbd cap rb da dc W per P)
    (h1 : P'.ms = P.ms) (h2 : P'.s = P.s) (h3 : P'.q = P.q) (h4 : P'.n = P.n) : Parts w base c pl bm bw wb wbd cap rb da dc W per P' := by
  obtain ⟨ms, s, q, n, _, _, _, _, _, _, _⟩ := P
  obtain ⟨ms', s', q', n', _, _, _, _, _, _, _⟩ := P'
  dsimp only at h1 h2 h3 h4
  subst h1 h2 h3 h4
  exact ⟨h.mem, h.cfg, h.cfgl, h.low, h.p1, h.pc, fun a => let q := h.wr a; ⟨q.at_, q.low, q.wb1, q.wd1, q.cfg⟩, fun a => let q := h.rd a; ⟨q.at_, q.low, q.rb1, q.own, q.cfg⟩, h.wrd⟩

/-- What a step of a play's write leaves. -/
def WTo (d : DidV) (base : Nat) (c : CfgV) (pl bm bw wb wbd cap rb : Nat) (da : Option Addr) (dc : Nat) (W per : Int) (P : PSt) (w : World) (e : Ending) (w' : World) : Prop :=
  e = .returned (.agg d.cells) ∧ Keeps [wb, bw] w w' ∧ Parts w' base c pl bm bw wb wbd cap rb da dc W per P

theorem WStep_at (d : DidV) (base : Nat) (c : CfgV) (pl bm bw wb wbd cap rb : Nat) (da : Option Addr) (dc : Nat) (W per now : Int) (P : PSt) (w : World) (h : Parts w base c pl bm bw wb wbd cap rb da dc W per P)
    (hs : P.s.stage ≠ 7) (hi : PInv W P) (hW : 1 ≤ W) (hW' : W ≤ 16) (hn0 : 0 ≤ now) (hn1 : now ≤ 4294967295) (hd : (P.wr W now).1 = d) :
    Calls Try.prog 14 #[.pointer (some ⟨wb, 0, none⟩), .pointer (some ⟨bm, 0, none⟩), .int .i64 now] w (WTo d base c pl bm bw wb wbd cap rb da dc W per (P.wnext W now) w) := by
  subst hd
  have q := h.wr hs
  refine (WStep_any wb bm bw wbd (P.len W) cap 1 (12 + 4 * W) W per (List.replicate (P.len W) P.n) P.s P.ms now w h.mem q.at_ hi.ok (hi.geo hW hW') (hi.wok hW) hn0 hn1 q.wb1.2.1 q.wb1.2.2 q.wd1.2.2).mono ?_
  rintro e w' ⟨he, hk, hm, hw⟩
  refine ⟨he, hk, hm, h.cfg.keep hk (fun x a => ?_), fun x a => Nat.lt_of_lt_of_le (h.cfgl x a) hk.size, h.low, h.p1, h.pc, fun _ => ⟨hw, q.low, q.wb1, q.wd1, q.cfg⟩, fun a => ?_, fun _ a => h.wrd hs a⟩
  · have := q.cfg x a; have := h.pc x a; simp; omega
  · have r := h.rd a
    have a2 := h.wrd hs a
    refine ⟨r.at_.keep hk ?_ (fun x hx => ?_), r.low, r.rb1, r.own, r.cfg⟩
    · have := r.rb1; simp; omega
    · have := r.own x hx; have := a2.2.2 x hx; simp; omega

/-- What a step of a play's read leaves. -/
def RTo (did : Option Addr → Nat → DidV) (base : Nat) (c : CfgV) (pl bm bw wb wbd cap rb : Nat) (da : Option Addr) (dc : Nat) (W per : Int) (q0 : RSt) (P : PSt) (w : World) (e : Ending) (w' : World) : Prop :=
  ∃ da' dc', e = .returned (.agg (did da' dc').cells) ∧ Keeps (rb :: bw :: (rown da dc q0).toList) w w' ∧ Parts w' base c pl bm bw wb wbd cap rb da' dc' W per P ∧ RdAt w' rb da' dc' 1 (12 + 4 * W) W per P.q ∧
    (∀ x, rown da' dc' P.q = some x → rown da dc q0 = some x ∨ w.heap.size ≤ x)

theorem RStep_at (base : Nat) (c : CfgV) (pl bm bw wb wbd cap rb : Nat) (da : Option Addr) (dc : Nat) (W per now : Int) (P : PSt) (w : World) (h : Parts w base c pl bm bw wb wbd cap rb da dc W per P) (hb : base ≤ w.heap.size) (hpl : pl < w.heap.size)
    (hs : P.q.stage ≠ 6) (hi : PInv W P) (hW : 1 ≤ W) (hW' : W ≤ 16) (hn0 : 0 ≤ now) (hn1 : now ≤ 4294967295) :
    Calls Try.prog 16 #[.pointer (some ⟨rb, 0, none⟩), .pointer (some ⟨bm, 0, none⟩), .int .i64 now] w (RTo (rdid 1 W per P.q P.ms now) base c pl bm bw wb wbd cap rb da dc W per P.q (P.rnext W) w) := by
  have q := h.rd hs
  have own := q.own
  have lm := h.mem.hm.lt
  have lw := h.mem.hw.lt
  have lr := q.at_.obj.lt
  refine (RStep_any rb bm bw dc da 1 (12 + 4 * W) W per P.q P.ms now w h.mem q.at_ hi.ok (hi.geo hW hW') (hi.rok hW) hn0 hn1 q.rb1.2.1 q.rb1.2.2 (fun a => (own _ a.symm).2.2.2.2 rfl) (fun a => (own _ a.symm).2.2.1 rfl) (fun a => (own _ a.symm).2.2.2.1 rfl)).mono ?_
  rintro e w' ⟨da', dc', he, hk, hm, hr, ho⟩
  have own' : ∀ x, rown da' dc' (P.rnext W).q = some x → rown da dc P.q = some x ∨ w.heap.size ≤ x := by
    intro x hx
    rcases ho with a | ⟨g, a, b⟩
    · exact .inl (a.symm.trans hx)
    · have := Option.some.inj (a.symm.trans hx); omega
  have nl : ∀ x, x ≠ rb → x ≠ bw → rown da dc P.q ≠ some x → x ∉ (rb :: bw :: (Value.slice da P.q.xs.length dc).ownBlock.toList) := by
    intro x a b c d
    simp only [List.mem_cons, Option.mem_toList] at d
    rcases d with d | d | d
    · exact a d
    · exact b d
    · exact c d
  refine ⟨da', dc', he, hk, ⟨hm, h.cfg.keep hk (fun x a => nl x (q.cfg x a).1 (h.pc x a).2.2 (q.cfg x a).2), fun x a => Nat.lt_of_lt_of_le (h.cfgl x a) hk.size, h.low, h.p1, h.pc, fun a => ?_, fun _ => ⟨hr, q.low, q.rb1, fun x hx => ?_, fun x a => ⟨(q.cfg x a).1, fun hx => ?_⟩⟩, fun a _ => ?_⟩, hr, own'⟩
  · have r := h.wr a
    have a2 := h.wrd a hs
    refine ⟨r.at_.keep hk (nl _ a2.1 r.wb1.2.2 (fun hx => (a2.2.2 _ hx).1 rfl)) (nl _ a2.2.1 r.wd1.2.2 (fun hx => (a2.2.2 _ hx).2 rfl)), r.low, r.wb1, r.wd1, r.cfg⟩
  · rcases own' x hx with a | a
    · exact own x a
    · omega
  · rcases own' x hx with b | b
    · exact (q.cfg x a).2 b
    · have := h.cfgl x a; omega
  · have r := h.wr a
    have a2 := h.wrd a hs
    refine ⟨a2.1, a2.2.1, fun x hx => ?_⟩
    rcases own' x hx with b | b
    · exact a2.2.2 x b
    · have := r.at_.obj.lt; have := r.at_.data.elim fun _ d => d.1.lt; omega

/-- A play in memory. -/
structure PlayAt (w : World) (base : Nat) (c : CfgV) (pl bm bw wb wbd cap rb : Nat) (da : Option Addr) (dc : Nat) (W per : Int) (P : PSt) : Prop where
  obj : Blk w pl (plCells c bm (.pointer (wadr wb P.s)) (.pointer (radr rb P.q)) P.n P.written P.marked P.begun P.first P.last P.steps P.own) 43
  parts : Parts w base c pl bm bw wb wbd cap rb da dc W per P

/-- Where a play stands when its write has begun. -/
def PSt.wnew (P : PSt) : PSt := if P.s.stage = 7 then { P with s := ⟨0, 0, 0, 0, false⟩, n := P.n + 1, steps := 0 } else P
def PSt.rnew (P : PSt) : PSt := if P.q.stage = 6 then { P with q := ⟨0, 0, 0, 0, 0, []⟩, begun := P.written, first := P.marked, own := 0 } else P

theorem PInv.wnew {W : Int} {P : PSt} (h : PInv W P) : PInv W P.wnew ∧ P.wnew.s.stage ≤ 6 ∧ P.wnew.n ≤ P.n + 1 := by
  unfold PSt.wnew
  have := h.core.stl
  split
  · rename_i a; exact ⟨h.begin a, by show 0 ≤ 6; decide, by show P.n + 1 ≤ P.n + 1; omega⟩
  · exact ⟨h, by omega, by omega⟩

theorem PInv.rnew {W : Int} {P : PSt} (h : PInv W P) : PInv W P.rnew ∧ P.rnew.q.stage ≤ 5 := by
  unfold PSt.rnew
  have := h.core.rsl
  split
  · rename_i a; exact ⟨h.beginR a, by show 0 ≤ 5; decide⟩
  · exact ⟨h, by omega⟩

end Go.Proofs.Ytpkjffiajidfcaa
