/- Plain facts on the hash of a text: no program in sight. One step of it is one to one in the hash and in the byte; so texts that differ in one byte have unlike hashes. No condition but the bounds named. -/
namespace Go.Proofs.Ytbflennacniacaa

def hP : Nat := 1099511628211
def hM : Nat := 18446744073709551616
def hQ : Nat := 14886173955864302971
def firstN : Nat := 14695981039346656037
theorem hPQ : hP * hQ % hM = 1 := by decide +kernel
theorem hM_eq : hM = 2 ^ 64 := by decide +kernel
theorem hM_pos : 0 < hM := by decide +kernel
theorem firstN_lt : firstN < hM := by decide +kernel
/-- One step of the hash. -/
def stepN (h : Nat) (b : UInt8) : Nat := (h ^^^ b.toNat) * hP % hM
def sumN (l : List UInt8) : Nat := l.foldl stepN firstN
theorem stepN_lt (h : Nat) (b : UInt8) : stepN h b < hM := Nat.mod_lt _ hM_pos
theorem foldl_lt (l : List UInt8) : ∀ h : Nat, h < hM → l.foldl stepN h < hM := by
  induction l with
  | nil => intro h hh; exact hh
  | cons b l ih => intro h _; exact ih _ (stepN_lt h b)
theorem sumN_lt (l : List UInt8) : sumN l < hM := foldl_lt l _ firstN_lt
theorem foldl_snoc (f : Nat → UInt8 → Nat) (n : Nat) (l : List UInt8) (b : UInt8) : (l ++ [b]).foldl f n = f (l.foldl f n) b := by
  rw [List.foldl_append]; rfl
theorem sumN_snoc (l : List UInt8) (b : UInt8) : sumN (l ++ [b]) = stepN (sumN l) b := foldl_snoc stepN firstN l b
theorem sumN_nil : sumN [] = firstN := List.foldl_nil
theorem times_key (p q m z : Nat) (h : p * q % m = 1) (hz : z < m) : (z * p % m) * q % m = z := by
  rw [Nat.mod_mul_mod, Nat.mul_assoc, ← Nat.mul_mod_mod, h, Nat.mul_one]
  exact Nat.mod_eq_of_lt hz
theorem times_inj' {x y : Nat} (p q m : Nat) (h1 : p * q % m = 1) (hx : x < m) (hy : y < m) (h : x * p % m = y * p % m) : x = y := by
  rw [← times_key p q m x h1 hx, ← times_key p q m y h1 hy, h]
theorem times_inj {x y : Nat} (hx : x < hM) (hy : y < hM) (h : x * hP % hM = y * hP % hM) : x = y := times_inj' hP hQ hM hPQ hx hy h
theorem xor_lt {h : Nat} (hh : h < hM) (b : UInt8) : h ^^^ b.toNat < hM := by
  rw [hM_eq] at *
  exact Nat.xor_lt_two_pow hh (Nat.lt_of_lt_of_le b.toNat_lt (Nat.pow_le_pow_right (by omega) (by omega)))
theorem xor_cancel {a b c : Nat} (h : a ^^^ c = b ^^^ c) : a = b := by
  have : (a ^^^ c) ^^^ c = (b ^^^ c) ^^^ c := by rw [h]
  simpa [Nat.xor_assoc] using this
theorem xor_cancel' {a b c : Nat} (h : c ^^^ a = c ^^^ b) : a = b := xor_cancel (c := c) (by rw [Nat.xor_comm a, Nat.xor_comm b, h])
theorem stepN_inj {g h : Nat} (b : UInt8) (hg : g < hM) (hh : h < hM) (e : stepN g b = stepN h b) : g = h :=
  xor_cancel (times_inj (xor_lt hg b) (xor_lt hh b) e)
theorem stepN_inj' {h : Nat} (b c : UInt8) (hh : h < hM) (e : stepN h b = stepN h c) : b = c :=
  UInt8.toNat_inj.1 (xor_cancel' (times_inj (xor_lt hh b) (xor_lt hh c) e))
theorem foldl_inj (l : List UInt8) : ∀ g h : Nat, g < hM → h < hM → l.foldl stepN g = l.foldl stepN h → g = h := by
  induction l with
  | nil => intro g h _ _ e; exact e
  | cons b l ih => intro g h hg hh e; exact stepN_inj b hg hh (ih _ _ (stepN_lt g b) (stepN_lt h b) e)
/-- Texts that differ in one byte alone have unlike sums. -/
theorem sumN_one (l r : List UInt8) (b c : UInt8) (h : sumN (l ++ b :: r) = sumN (l ++ c :: r)) : b = c := by
  simp only [sumN, List.foldl_append, List.foldl_cons] at h
  exact stepN_inj' b c (foldl_lt l _ firstN_lt) (foldl_inj r _ _ (stepN_lt _ _) (stepN_lt _ _) h)

/-- A hash's digits. -/
def hexDigits : List UInt8 := [48, 49, 50, 51, 52, 53, 54, 55, 56, 57, 97, 98, 99, 100, 101, 102]
def hexDigit (x k : Nat) : UInt8 := hexDigits.getD (x / 16 ^ (15 - k) % 16) 0
def hexN (x : Nat) : List UInt8 := (List.range 16).map (hexDigit x)
end Go.Proofs.Ytbflennacniacaa
