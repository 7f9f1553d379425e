/- Stage 22: the examples of the chapter, as the kernel reckons them. -/
import Derived.Test.YtjoljfnlkddfbaaGreatDoorMoveQ
set_option linter.unusedSimpArgs false
set_option linter.unusedVariables false
set_option maxRecDepth 100000
namespace Go.Proofs.YtjoljfnlkddfbaaGreatDoor

def qtyK (c : CartD) (nm : ByteArray) : Int := if validCK c && thereB c.items nm then qtyI (findX c.items nm) else 0
def mSumEK (c : CartD) (nm : ByteArray) (q : Int) : Int := if validCK c && nameB nm then (if validQ q && validQ (qtyK c nm + q) then 0 else 14) else 2
def mSumK (c : CartD) (nm : ByteArray) (q : Int) : Int := if mSumEK c nm q = 0 then qtyK c nm + q else 0
def freshK (c : CartD) (d : DotD) : Bool := validCK c && validDotD d && !hasC c d
def timeK (c : CartD) : Int := if validCK c then (if lastT (allMarks c.items) = 18446744073709551615 then 0 else lastT (allMarks c.items) + 1) else 0
def timeEK (c : CartD) : Int := if validCK c then (if lastT (allMarks c.items) = 18446744073709551615 then 15 else 0) else 2
def dotsK (c : CartD) (nm : ByteArray) : List DotD := if validCK c then dotsM (marksOf c.items nm) else []
def addEK (c : CartD) (d : DotD) (nm : ByteArray) (q : Int) : Int := if freshK c d && nameB nm then (if validQ q then (if !thereB c.items nm && decide (256 ≤ c.items.length) then 13 else timeEK c) else 14) else 2
def addK (c : CartD) (d : DotD) (nm : ByteArray) (q : Int) : CartD := if addEK c d nm q = 0 then ⟨(goneK (d :: dotsK c nm)).vec, (goneK (d :: dotsK c nm)).cloud, [⟨nm, [⟨d, q, timeK c⟩]⟩]⟩ else zeroC
def comeEK (t : CartD) (d : DotD) (nm : ByteArray) (q : Int) : Int := if mSumEK t nm q = 0 then addEK t d nm (mSumK t nm q) else mSumEK t nm q
def comeXK (t : CartD) (d : DotD) (nm : ByteArray) (q : Int) : CartD := if comeEK t d nm q = 0 then addK t d nm (mSumK t nm q) else zeroC
theorem qtyK_eq : qtyC = qtyK := by funext c nm; unfold qtyC qtyK; rw [validC_K]
theorem mSumEK_eq : mSumE = mSumEK := by funext c nm q; unfold mSumE mSumEK; rw [validC_K, qtyK_eq]
theorem mSumK_eq : mSum = mSumK := by funext c nm q; unfold mSum mSumK; rw [mSumEK_eq, qtyK_eq]
theorem freshK_eq : freshC = freshK := by funext c d; unfold freshC freshK; rw [validC_K]
theorem timeK_eq : timeC = timeK := by funext c; unfold timeC timeK; rw [validC_K]
theorem timeEK_eq : timeCE = timeEK := by funext c; unfold timeCE timeEK; rw [validC_K]
theorem dotsK_eq {c : CartD} {nm : ByteArray} (h : nm.size ≠ 0) : dotsC c nm = dotsK c nm := by unfold dotsC dotsK; rw [validC_K, if_neg h]
theorem addEK_eq (c : CartD) (d : DotD) (nm : ByteArray) (q : Int) : putCE c d nm q false = addEK c d nm q := by
 unfold putCE addEK
 rw [freshK_eq, timeEK_eq]
 simp
theorem addK_eq {c : CartD} {d : DotD} {nm : ByteArray} {q : Int} (h : nm.size ≠ 0) : putC c d nm q false = addK c d nm q := by
 unfold putC addK putOf newM
 rw [addEK_eq, goneK_eq, dotsK_eq h, timeK_eq]
theorem comeEK_eq (t : CartD) (d : DotD) (nm : ByteArray) (q : Int) : comeE t d nm q = comeEK t d nm q := by unfold comeE comeEK; rw [mSumEK_eq, mSumK_eq, addEK_eq]
theorem comeXK_eq {t : CartD} {d : DotD} {nm : ByteArray} {q : Int} (h : nm.size ≠ 0) : comeX t d nm q = comeXK t d nm q := by unfold comeX comeXK; rw [comeEK_eq, mSumK_eq, addK_eq h]
def logLK (f : CartD) : CartD → List (ItemD × DotD) → List CartD → CartD × List CartD × Int
 | t, [], ds => (t, ds, 0)
 | t, (x, d) :: l, ds => if comeEK t d x.name (qtyK f x.name) = 0 then logLK f (refJoinK t (comeXK t d x.name (qtyK f x.name))) l (ds ++ [comeXK t d x.name (qtyK f x.name)]) else (t, ds, comeEK t d x.name (qtyK f x.name))
theorem logLK_eq (f : CartD) : ∀ (l : List (ItemD × DotD)) (t : CartD) (ds : List CartD), (∀ p ∈ l, p.1.name.size ≠ 0) → logL f t l ds = logLK f t l ds
 | [], t, ds, h => rfl
 | (x, d) :: l, t, ds, h => by
  have hx : x.name.size ≠ 0 := h (x, d) (by simp)
  simp only [logL, logLK]
  rw [comeEK_eq, comeXK_eq hx, refJoinK_eq, qtyK_eq, logLK_eq f l _ _ (fun p hp => h p (by simp [hp]))]
def allCK (l : List CartD) : CartD := l.foldl refJoinK zeroC
theorem allCK_eq : allC = allCK := by
 funext l
 unfold allC allCK
 rw [show refJoin = refJoinK from funext fun a => funext fun b => refJoinK_eq a b]
def wA : CartD := ⟨[⟨1, 2⟩], [], [⟨tOil, [⟨⟨1, 2⟩, 2, 2⟩]⟩, ⟨tTea, [⟨⟨1, 1⟩, 3, 1⟩]⟩]⟩
def wB : CartD := ⟨[⟨2, 1⟩], [], [⟨tTea, [⟨⟨2, 1⟩, 4, 5⟩]⟩]⟩
def wA1 : CartD := ⟨[⟨1, 1⟩], [], []⟩
def wB1 : CartD := ⟨[⟨2, 2⟩], [], [⟨tTea, [⟨⟨2, 2⟩, 7, 6⟩]⟩]⟩
def wA2 : CartD := ⟨[⟨1, 2⟩], [], []⟩
def wB2 : CartD := ⟨[⟨2, 3⟩], [], [⟨tOil, [⟨⟨2, 2⟩, 2, 6⟩]⟩, ⟨tTea, [⟨⟨2, 3⟩, 7, 7⟩]⟩]⟩
def wishB (f t : CartD) (nm : ByteArray) (d : DotD) (x y : CartD) (n no : Int) : Bool := decide (wishX f t nm d = x) && decide (wishY f t nm d = y) && (wishQ f t nm d == n) && (wishE f t nm d == no)
def logB (f t : CartD) (l : List DotD) (x y : CartD) (no : Int) : Bool := decide (logX f t l = x) && decide (logY f t l = y) && (logE f t l == no)
def wishEK (f t : CartD) (nm : ByteArray) (d : DotD) : Int := if validCK f && validCK t && nameB nm && freshK t d then (if thereB f.items nm then comeEK t d nm (qtyK f nm) else 9) else 2
def remK (c : CartD) (nm : ByteArray) : CartD := if validCK c && nameB nm && thereB c.items nm then goneK (dotsK c nm) else zeroC
def wishBK (f t : CartD) (nm : ByteArray) (d : DotD) (x y : CartD) (n no : Int) : Bool :=
 decide ((if wishEK f t nm d = 0 then remK f nm else zeroC) = x) && decide ((if wishEK f t nm d = 0 then comeXK t d nm (qtyK f nm) else zeroC) = y) && ((if wishEK f t nm d = 0 then (if comeEK t d nm (qtyK f nm) = 0 then mSumK t nm (qtyK f nm) else 0) else 0) == n) && (wishEK f t nm d == no)
theorem wishEK_eq (f t : CartD) (nm : ByteArray) (d : DotD) : wishE f t nm d = wishEK f t nm d := by
 unfold wishE wishEK wishOk
 rw [validC_K, freshK_eq, comeEK_eq, qtyK_eq]
theorem remK_eq {c : CartD} {nm : ByteArray} (h : nm.size ≠ 0) : remC c nm = remK c nm := by
 unfold remC remCE remK
 rw [validC_K, goneK_eq, dotsK_eq h]
 cases validCK c <;> cases nameB nm <;> cases thereB c.items nm <;> rfl
theorem wishBK_eq {f t : CartD} {nm : ByteArray} {d : DotD} {x y : CartD} {n no : Int} (h : nm.size ≠ 0) : wishB f t nm d x y n no = wishBK f t nm d x y n no := by
 unfold wishB wishBK wishX wishY wishQ comeQ
 rw [wishEK_eq, remK_eq h, comeXK_eq h, qtyK_eq, comeEK_eq, mSumK_eq]
def loginEK (f t : CartD) (l : List DotD) : Int := if validCK f && validCK t && decide (l.length = f.items.length) && isSetB l && l.all (freshK t) then (if f.items.any (fun x => !decide (mSumEK t x.name (qtyK f x.name) = 0)) then 14 else if 256 < manyN f t ∧ t.items.length < manyN f t then 13 else 0) else 2
theorem loginEK_eq (f t : CartD) (l : List DotD) : loginE f t l = loginEK f t l := by
 unfold loginE loginEK loginOk loginMuch
 rw [validC_K, freshK_eq, mSumEK_eq, qtyK_eq]
def logEK (f t : CartD) (l : List DotD) : Int := if loginEK f t l = 0 then (logLK f t (f.items.zip l) []).2.2 else loginEK f t l
def logBK (f t : CartD) (l : List DotD) (x y : CartD) (no : Int) : Bool :=
 decide ((if logEK f t l = 0 then (if validCK f then goneK (allDots f.items) else zeroC) else zeroC) = x) && decide ((if logEK f t l = 0 then allCK (logLK f t (f.items.zip l) []).2.1 else zeroC) = y) && (logEK f t l == no)
theorem logBK_eq {f t : CartD} {l : List DotD} {x y : CartD} {no : Int} (h : ∀ z ∈ f.items, z.name.size ≠ 0) : logB f t l x y no = logBK f t l x y no := by
 have e1 : logF f t l = logLK f t (f.items.zip l) [] := logLK_eq f _ t [] (fun p hp => h _ (zip_mem hp).1)
 have e2 : logE f t l = logEK f t l := by unfold logE logEK; rw [loginEK_eq, e1]
 have e3 : clrC f = if validCK f then goneK (allDots f.items) else zeroC := by
  unfold clrC clrCE
  rw [validC_K, goneK_eq2]
  cases validCK f <;> rfl
 unfold logB logBK logX logY
 rw [e2, e1, e3, allCK_eq]
theorem kw1 : wishB wA wB tTea ⟨2, 2⟩ wA1 wB1 7 0 = true := by rw [wishBK_eq (by decide)]; decide +kernel
theorem kw2 : logB wA wB [⟨2, 2⟩, ⟨2, 3⟩] wA2 wB2 0 = true := by rw [logBK_eq (by decide)]; decide +kernel
theorem kw3 : wishB wA wB tNut ⟨2, 2⟩ zeroC zeroC 0 9 = true := by rw [wishBK_eq (by decide)]; decide +kernel
theorem kw4 : wishB wA wB tTea ⟨2, 1⟩ zeroC zeroC 0 2 = true := by rw [wishBK_eq (by decide)]; decide +kernel
theorem kw5 : logB wA wB [⟨2, 2⟩] zeroC zeroC 2 = true := by rw [logBK_eq (by decide)]; decide +kernel
theorem kw6 : ((mSum wB tTea 2147483644 == 0) && (mSumE wB tTea 2147483644 == 14)) = true := by rw [mSumK_eq, mSumEK_eq]; decide +kernel
theorem kw7 : ((mSum wB tNut 5 == 5) && (mSumE wB tNut 5 == 0)) = true := by rw [mSumK_eq, mSumEK_eq]; decide +kernel
theorem kw8 : ((mMany wA wB == 2) && (mManyE wA wB == 0)) = true := by unfold mMany mManyE; rw [validC_K]; decide +kernel
end Go.Proofs.YtjoljfnlkddfbaaGreatDoor
