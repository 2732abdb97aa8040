/- A part of the proof of TxnChecksCardSaid: an evaluator of the program, proved sound, and what it says. -/
import Derived.Test.YtmflphfmefakfaaGreatDoorVtTl0
set_option linter.all false
namespace Go.Proofs.YtmflphfmefakfaaGreatDoor.Av
open Go
set_option linter.unusedVariables false
set_option linter.unusedSimpArgs false
theorem f12_ok (n : Nat) (a1769 : GEdit) (r : Int) (h : f12 n a1769 = some r) : pv PP T n 12 [(.agg (c_GEdit a1769))] = some (iv r) := by
 cases n with
 | zero => cases h
 | succ n =>
  rw [f12] at h
  rcases cnd_or h with ⟨h1770, h⟩ | ⟨h1770, h⟩
  ·have g1771 := bool_eq h1770
   obtain rfl := si h
   exact pz F12 ⟨[tt 6], []⟩ (Z g1771 Z0)
  have g1772 := bool_eq h1770
  rcases cnd_or h with ⟨h1773, h⟩ | ⟨h1773, h⟩
  ·have g1774 := bool_eq h1773
   obtain rfl := si h
   exact pz F12 ⟨[ff 6, tt 10], []⟩ (W2 g1774 g1772 Z0)
  have g1775 := bool_eq h1773
  rcases cnd_or h with ⟨h1776, h⟩ | ⟨h1776, h⟩
  rotate_left
  ·have g1816 := bool_eq h1776
   obtain ⟨v1817, e1818, h⟩ := bnd_some h
   rcases cnd_or h with ⟨h1819, h⟩ | ⟨h1819, h⟩
   ·have g1820 := by have q := f28_ok n a1769 _ e1818; rw [h1819] at q; exact q
    obtain rfl := si h
    exact pz F12 ⟨[ff 6, ff 10, ff 15, tt 24], []⟩ (W4 g1820 g1816 g1775 g1772 Z0)
   have g1821 := by have q := f28_ok n a1769 _ e1818; rw [h1819] at q; exact q
   have g1822 := len_sl (P := PP) (cf := evF PP T n) (fl := 0) (H := [(.blk 10 [(c_GEdit a1769)])]) (f := false) (c := c_GPoint) (l := a1769.Via)
   rcases cnd_or h with ⟨h1823, h⟩ | ⟨h1823, h⟩
   ·have g1824 := bool_eq h1823
    obtain rfl := si h
    exact pz F12 ⟨[ff 6, ff 10, ff 15, ff 24, (28, (iv ((a1769.Via.length : Nat) : Int)), none), tt 29], []⟩ (W4 g1824 g1822 g1821 g1816 <| W2 g1775 g1772 Z0)
   have g1825 := bool_eq h1823
   have g1826 := len_sl (P := PP) (cf := evF PP T n) (fl := 0) (H := [(.blk 10 [(c_GEdit a1769)])]) (f := false) (c := c_i64) (l := a1769.Parts)
   rcases cnd_or h with ⟨h1827, h⟩ | ⟨h1827, h⟩
   ·have g1828 := bool_eq h1827
    obtain rfl := si h
    exact pz F12 ⟨[ff 6, ff 10, ff 15, ff 24, (28, (iv ((a1769.Via.length : Nat) : Int)), none), ff 29, (33, (iv ((a1769.Parts.length : Nat) : Int)), none), tt 34], []⟩ (W8 g1828 g1826 g1825 g1822 g1821 g1816 g1775 g1772 Z0)
   have g1829 := bool_eq h1827
   obtain ⟨v1830, e1831, h⟩ := bnd_some h
   rcases cnd_or h with ⟨h1832, h⟩ | ⟨h1832, h⟩
   rotate_left
   ·have g1848 := by have q := f29_ok n a1769 _ e1831; rw [h1832] at q; exact q
    obtain rfl := si h
    exact pz F12 ⟨[ff 6, ff 10, ff 15, ff 24, (28, (iv ((a1769.Via.length : Nat) : Int)), none), ff 29, (33, (iv ((a1769.Parts.length : Nat) : Int)), none), ff 34, ff 38], []⟩ (W8 g1848 g1829 g1826 g1825 g1822 g1821 g1816 g1775 <| Z g1772 Z0)
   have g1833 := by have q := f29_ok n a1769 _ e1831; rw [h1832] at q; exact q
   obtain ⟨v1834, e1835, h⟩ := bnd_some h
   rcases cnd_or h with ⟨h1836, h⟩ | ⟨h1836, h⟩
   rotate_left
   ·have g1847 := by have q := f30_ok n a1769.Parts _ e1835; rw [h1836] at q; exact q
    obtain rfl := si h
    exact pz F12 ⟨[ff 6, ff 10, ff 15, ff 24, (28, (iv ((a1769.Via.length : Nat) : Int)), none), ff 29, (33, (iv ((a1769.Parts.length : Nat) : Int)), none), ff 34, tt 38, ff 43], []⟩ (W8 g1847 g1833 g1829 g1826 g1825 g1822 g1821 g1816 <| W2 g1775 g1772 Z0)
   have g1837 := by have q := f30_ok n a1769.Parts _ e1835; rw [h1836] at q; exact q
   rcases cnd_or h with ⟨h1838, h⟩ | ⟨h1838, h⟩
   ·have g1839 := c_str_neq (P := PP) (cf := evF PP T n) (fl := 0) (H := [(.blk 10 [(c_GEdit a1769)])]) (t := 9) h1838
    obtain rfl := si h
    exact pz F12 ⟨[ff 6, ff 10, ff 15, ff 24, (28, (iv ((a1769.Via.length : Nat) : Int)), none), ff 29, (33, (iv ((a1769.Parts.length : Nat) : Int)), none), ff 34, tt 38, tt 43, ff 48], []⟩ (W8 g1839 g1837 g1833 g1829 g1826 g1825 g1822 g1821 <| W2 g1816 g1775 <| Z g1772 Z0)
   have g1840 := c_str_neq (P := PP) (cf := evF PP T n) (fl := 0) (H := [(.blk 10 [(c_GEdit a1769)])]) (t := 9) h1838
   obtain ⟨v1841, e1842, h⟩ := bnd_some h
   have g1843 := f11_ok n a1769.Name _ e1842
   rcases cnd_or h with ⟨h1844, h⟩ | ⟨h1844, h⟩
   ·have g1845 := bool_eq h1844
    obtain rfl := si h
    exact pz F12 ⟨[ff 6, ff 10, ff 15, ff 24, (28, (iv ((a1769.Via.length : Nat) : Int)), none), ff 29, (33, (iv ((a1769.Parts.length : Nat) : Int)), none), ff 34, tt 38, tt 43, tt 48, (52, (iv v1841), none), tt 53], []⟩ (W8 g1845 g1843 g1840 g1837 g1833 g1829 g1826 g1825 <| W4 g1822 g1821 g1816 g1775 <| Z g1772 Z0)
   have g1846 := bool_eq h1844
   obtain rfl := si h
   exact pz F12 ⟨[ff 6, ff 10, ff 15, ff 24, (28, (iv ((a1769.Via.length : Nat) : Int)), none), ff 29, (33, (iv ((a1769.Parts.length : Nat) : Int)), none), ff 34, tt 38, tt 43, tt 48, (52, (iv v1841), none), ff 53], []⟩ (W8 g1846 g1843 g1840 g1837 g1833 g1829 g1826 g1825 <| W4 g1822 g1821 g1816 g1775 <| Z g1772 Z0)
  have g1777 := bool_eq h1776
  obtain ⟨v1778, e1779, h⟩ := bnd_some h
  have g1780 := f27_ok n a1769.A _ e1779
  rcases cnd_or h with ⟨h1781, h⟩ | ⟨h1781, h⟩
  ·have g1782 := bool_eq h1781
   obtain rfl := si h
   exact pz F12 ⟨[ff 6, ff 10, tt 15, (19, (iv v1778), none), tt 20], []⟩ (W4 g1782 g1780 g1777 g1775 <| Z g1772 Z0)
  have g1783 := bool_eq h1781
  obtain ⟨v1784, e1785, h⟩ := bnd_some h
  rcases cnd_or h with ⟨h1786, h⟩ | ⟨h1786, h⟩
  ·have g1787 := by have q := f28_ok n a1769 _ e1785; rw [h1786] at q; exact q
   obtain rfl := si h
   exact pz F12 ⟨[ff 6, ff 10, tt 15, (19, (iv v1778), none), ff 20, tt 24], []⟩ (W4 g1787 g1783 g1780 g1777 <| W2 g1775 g1772 Z0)
  have g1788 := by have q := f28_ok n a1769 _ e1785; rw [h1786] at q; exact q
  have g1789 := len_sl (P := PP) (cf := evF PP T n) (fl := 0) (H := [(.blk 10 [(c_GEdit a1769)])]) (f := false) (c := c_GPoint) (l := a1769.Via)
  rcases cnd_or h with ⟨h1790, h⟩ | ⟨h1790, h⟩
  ·have g1791 := bool_eq h1790
   obtain rfl := si h
   exact pz F12 ⟨[ff 6, ff 10, tt 15, (19, (iv v1778), none), ff 20, ff 24, (28, (iv ((a1769.Via.length : Nat) : Int)), none), tt 29], []⟩ (W8 g1791 g1789 g1788 g1783 g1780 g1777 g1775 g1772 Z0)
  have g1792 := bool_eq h1790
  have g1793 := len_sl (P := PP) (cf := evF PP T n) (fl := 0) (H := [(.blk 10 [(c_GEdit a1769)])]) (f := false) (c := c_i64) (l := a1769.Parts)
  rcases cnd_or h with ⟨h1794, h⟩ | ⟨h1794, h⟩
  ·have g1795 := bool_eq h1794
   obtain rfl := si h
   exact pz F12 ⟨[ff 6, ff 10, tt 15, (19, (iv v1778), none), ff 20, ff 24, (28, (iv ((a1769.Via.length : Nat) : Int)), none), ff 29, (33, (iv ((a1769.Parts.length : Nat) : Int)), none), tt 34], []⟩ (W8 g1795 g1793 g1792 g1789 g1788 g1783 g1780 g1777 <| W2 g1775 g1772 Z0)
  have g1796 := bool_eq h1794
  obtain ⟨v1797, e1798, h⟩ := bnd_some h
  rcases cnd_or h with ⟨h1799, h⟩ | ⟨h1799, h⟩
  rotate_left
  ·have g1815 := by have q := f29_ok n a1769 _ e1798; rw [h1799] at q; exact q
   obtain rfl := si h
   exact pz F12 ⟨[ff 6, ff 10, tt 15, (19, (iv v1778), none), ff 20, ff 24, (28, (iv ((a1769.Via.length : Nat) : Int)), none), ff 29, (33, (iv ((a1769.Parts.length : Nat) : Int)), none), ff 34, ff 38], []⟩ (W8 g1815 g1796 g1793 g1792 g1789 g1788 g1783 g1780 <| W2 g1777 g1775 <| Z g1772 Z0)
  have g1800 := by have q := f29_ok n a1769 _ e1798; rw [h1799] at q; exact q
  obtain ⟨v1801, e1802, h⟩ := bnd_some h
  rcases cnd_or h with ⟨h1803, h⟩ | ⟨h1803, h⟩
  rotate_left
  ·have g1814 := by have q := f30_ok n a1769.Parts _ e1802; rw [h1803] at q; exact q
   obtain rfl := si h
   exact pz F12 ⟨[ff 6, ff 10, tt 15, (19, (iv v1778), none), ff 20, ff 24, (28, (iv ((a1769.Via.length : Nat) : Int)), none), ff 29, (33, (iv ((a1769.Parts.length : Nat) : Int)), none), ff 34, tt 38, ff 43], []⟩ (W8 g1814 g1800 g1796 g1793 g1792 g1789 g1788 g1783 <| W4 g1780 g1777 g1775 g1772 Z0)
  have g1804 := by have q := f30_ok n a1769.Parts _ e1802; rw [h1803] at q; exact q
  rcases cnd_or h with ⟨h1805, h⟩ | ⟨h1805, h⟩
  ·have g1806 := c_str_neq (P := PP) (cf := evF PP T n) (fl := 0) (H := [(.blk 10 [(c_GEdit a1769)])]) (t := 9) h1805
   obtain rfl := si h
   exact pz F12 ⟨[ff 6, ff 10, tt 15, (19, (iv v1778), none), ff 20, ff 24, (28, (iv ((a1769.Via.length : Nat) : Int)), none), ff 29, (33, (iv ((a1769.Parts.length : Nat) : Int)), none), ff 34, tt 38, tt 43, ff 48], []⟩ (W8 g1806 g1804 g1800 g1796 g1793 g1792 g1789 g1788 <| W4 g1783 g1780 g1777 g1775 <| Z g1772 Z0)
  have g1807 := c_str_neq (P := PP) (cf := evF PP T n) (fl := 0) (H := [(.blk 10 [(c_GEdit a1769)])]) (t := 9) h1805
  obtain ⟨v1808, e1809, h⟩ := bnd_some h
  have g1810 := f11_ok n a1769.Name _ e1809
  rcases cnd_or h with ⟨h1811, h⟩ | ⟨h1811, h⟩
  ·have g1812 := bool_eq h1811
   obtain rfl := si h
   exact pz F12 ⟨[ff 6, ff 10, tt 15, (19, (iv v1778), none), ff 20, ff 24, (28, (iv ((a1769.Via.length : Nat) : Int)), none), ff 29, (33, (iv ((a1769.Parts.length : Nat) : Int)), none), ff 34, tt 38, tt 43, tt 48, (52, (iv v1808), none), tt 53], []⟩ (W8 g1812 g1810 g1807 g1804 g1800 g1796 g1793 g1792 <| W4 g1789 g1788 g1783 g1780 <| W2 g1777 g1775 <| Z g1772 Z0)
  have g1813 := bool_eq h1811
  obtain rfl := si h
  exact pz F12 ⟨[ff 6, ff 10, tt 15, (19, (iv v1778), none), ff 20, ff 24, (28, (iv ((a1769.Via.length : Nat) : Int)), none), ff 29, (33, (iv ((a1769.Parts.length : Nat) : Int)), none), ff 34, tt 38, tt 43, tt 48, (52, (iv v1808), none), ff 53], []⟩ (W8 g1813 g1810 g1807 g1804 g1800 g1796 g1793 g1792 <| W4 g1789 g1788 g1783 g1780 <| W2 g1777 g1775 <| Z g1772 Z0)
def f2_L0_S (a1849 : GTxn) (i1891 : Int) : St := ⟨[U, U, U, U, U, U, U, U, U, U, U, U, U, U, U, U, U, U, U, U, U, U, U, U, U, U, U, U, U, U, U, U, U, U, U, U, U, U, U, U, U, U, U, U, U, U, U, U, U, U, U, U, U, (.sl false (List.map c_GEdit a1849.Edits)), (iv ((a1849.Edits.length : Nat) : Int)), (iv i1891), U, U, U, U, U, U, U, U, U], [(.blk 5 [(c_GTxn a1849)])]⟩
def f2_L0_E0 (a1849 : GTxn) (i1904 : Int) (i1905 : Int) (i1906 : Int) (i1907 : Int) (i1908 : Int) (i1909 : Int) (i1910 : Int) (l1911 : (List GPoint)) (s1912 : ByteArray) (l1913 : (List Int)) (i1914 : Int) : St := ⟨[U, U, (iv i1914), U, U, U, U, U, U, U, U, U, U, U, U, U, U, U, U, U, U, U, U, U, U, U, U, U, U, U, U, U, U, U, U, U, U, U, U, U, U, U, U, U, U, U, U, U, U, U, U, U, U, U, U, U, U, U, U, U, U, U, U, U, U], [(.blk 5 [(c_GTxn a1849)]), (.blk 10 [[(iv i1904), (iv i1905), (iv i1906), (iv i1907), (iv i1908), (iv i1909), (iv i1910), (.sl false (List.map c_GPoint l1911)), (sv s1912), (.sl false (List.map c_i64 l1913))]])]⟩
def f2_L0_E1 (a1849 : GTxn) : St := ⟨[U, U, U, U, U, U, U, U, U, U, U, U, U, U, U, U, U, U, U, U, U, U, U, U, U, U, U, U, U, U, U, U, U, U, U, U, U, U, U, U, U, U, U, U, U, U, U, U, U, U, U, U, U, U, U, U, U, U, U, U, U, U, U, U, U], [(.blk 5 [(c_GTxn a1849)])]⟩
def f2_L0 (n : Nat) (a1849 : GTxn) : Nat → Int → Option ((Int × Int × Int × Int × Int × Int × Int × (List GPoint) × ByteArray × (List Int) × Int) ⊕ Unit)
 | 0, _ => none
 | m + 1, i1891 => (cnd (decide (i1891 < ((a1849.Edits.length : Nat) : Int))) (bnd (idx a1849.Edits i1891) fun x1917 => (bnd (f12 n x1917) fun v1920 => (cnd (v1920 != 0) (some (Sum.inl (x1917.Kind, x1917.ID, x1917.A, x1917.B, x1917.C, x1917.At.X, x1917.At.Y, x1917.Via, x1917.Name, x1917.Parts, v1920))) (f2_L0 n a1849 m (IntKind.i64.wrap (i1891 + 1)))))) (some (Sum.inr ())))
theorem f2_L0_ok (n : Nat) (a1849 : GTxn) : ∀ (m : Nat) (i1891 : Int) (r : ((Int × Int × Int × Int × Int × Int × Int × (List GPoint) × ByteArray × (List Int) × Int) ⊕ Unit)), f2_L0 n a1849 m i1891 = some r → maskR [] [false, false, true] true 0 1 (evLoopH (headSt (some [false, false, false, false, false, false, false, false, false, false, false, false, false, false, false, false, false, false, false, false, false, false, false, false, false, false, false, false, false, false, false, false, false, false, false, false, false, false, false, false, false, false, false, false, false, false, false, false, false, false, false, false, false, true, true, true]) true 0 1) (evC PP (evF PP T n) n 0 L2_0) m (f2_L0_S a1849 i1891)) = (match r with | .inl r => some (.ret, f2_L0_E0 a1849 r.1 r.2.1 r.2.2.1 r.2.2.2.1 r.2.2.2.2.1 r.2.2.2.2.2.1 r.2.2.2.2.2.2.1 r.2.2.2.2.2.2.2.1 r.2.2.2.2.2.2.2.2.1 r.2.2.2.2.2.2.2.2.2.1 r.2.2.2.2.2.2.2.2.2.2) | .inr r => some ((.exit 0), f2_L0_E1 a1849))
 | 0, _, _, h => by cases h
 | m + 1, i1891, r, h => by
  rw [f2_L0] at h
  rcases cnd_or h with ⟨h1915, h⟩ | ⟨h1915, h⟩
  rotate_left
  ·have g1926 := bool_eq h1915
   obtain rfl := si h
   exact last_z (live := some [false, false, false, false, false, false, false, false, false, false, false, false, false, false, false, false, false, false, false, false, false, false, false, false, false, false, false, false, false, false, false, false, false, false, false, false, false, false, false, false, false, false, false, false, false, false, false, false, false, false, false, false, false, true, true, true]) (tr' := true) (st' := f2_L0_E1 a1849) ⟨[ff 56], []⟩ [] [] rfl (Z g1926 Z0) (by kernel_rfl) (by first | rfl | simp [cleanX, cleanQ, cleanObj, clean1, clean2, f2_L0_E1])
  have g1916 := bool_eq h1915
  obtain ⟨x1917, e1918, h⟩ := bnd_some h
  have g1919 := idxl (H := [(.blk 5 [(c_GTxn a1849)])]) (f := false) (c := c_GEdit) e1918 (c_GEdit_len _)
  obtain ⟨v1920, e1921, h⟩ := bnd_some h
  have g1922 := f12_ok n x1917 _ e1921
  rcases cnd_or h with ⟨h1923, h⟩ | ⟨h1923, h⟩
  ·have g1924 := bool_eq h1923
   obtain rfl := si h
   exact last_z (live := some [false, false, false, false, false, false, false, false, false, false, false, false, false, false, false, false, false, false, false, false, false, false, false, false, false, false, false, false, false, false, false, false, false, false, false, false, false, false, false, false, false, false, false, false, false, false, false, false, false, false, false, false, false, true, true, true]) (tr' := true) (st' := f2_L0_E0 a1849 x1917.Kind x1917.ID x1917.A x1917.B x1917.C x1917.At.X x1917.At.Y x1917.Via x1917.Name x1917.Parts v1920) ⟨[tt 56, (57, (.rptr [(iv x1917.Kind), (iv x1917.ID), (iv x1917.A), (iv x1917.B), (iv x1917.C), (iv x1917.At.X), (iv x1917.At.Y), (.sl false (List.map c_GPoint x1917.Via)), (sv x1917.Name), (.sl false (List.map c_i64 x1917.Parts))]), none), (60, (iv v1920), none), tt 62], []⟩ [] [none] rfl (W4 g1924 g1922 g1919 g1916 Z0) (by kernel_rfl) trivial
  have g1925 := bool_eq h1923
  exact (congrArg (maskR [] [false, false, true] true 0 1) (next_z (live := some [false, false, false, false, false, false, false, false, false, false, false, false, false, false, false, false, false, false, false, false, false, false, false, false, false, false, false, false, false, false, false, false, false, false, false, false, false, false, false, false, false, false, false, false, false, false, false, false, false, false, false, false, false, true, true, true]) (tr := true) (st' := f2_L0_S a1849 (IntKind.i64.wrap (i1891 + 1))) ⟨[tt 56, (57, (.rptr [(iv x1917.Kind), (iv x1917.ID), (iv x1917.A), (iv x1917.B), (iv x1917.C), (iv x1917.At.X), (iv x1917.At.Y), (.sl false (List.map c_GPoint x1917.Via)), (sv x1917.Name), (.sl false (List.map c_i64 x1917.Parts))]), none), (60, (iv v1920), none), ff 62], []⟩ [] [none] rfl (W4 g1925 g1922 g1919 g1916 Z0) (by kernel_rfl) (by first | rfl | simp [cleanX, cleanQ, cleanObj, clean1, clean2, f2_L0_S]) rfl)).trans (f2_L0_ok n a1849 m (IntKind.i64.wrap (i1891 + 1)) r h)
def f2 : Nat → GTxn → Option Int
 | 0, _ => none
 | n + 1, a1849 => (cnd (decide (a1849.Office < 1)) (some 2) (cnd (decide (a1849.Office > 8)) (some 2) (cnd (decide (a1849.Seq < 1)) (some 2) (cnd (decide (a1849.Seq > 1073741824)) (some 2) (cnd (decide (a1849.Time < 0)) (some 2) (cnd (decide (a1849.Time > 1073741824)) (some 2) (cnd (decide (a1849.Source = (⟨#[]⟩ : ByteArray))) (cnd (decide (((a1849.Edits.length : Nat) : Int) < 1)) (some 3) (cnd (decide (((a1849.Edits.length : Nat) : Int) > 64)) (some 3) (bnd2 (f2_L0 n a1849 n 0) (fun v1930 => (some v1930.2.2.2.2.2.2.2.2.2.2)) (fun v1931 => (some 0))))) (bnd (f11 n a1849.Source) fun v1933 => (cnd (v1933 != 0) (some v1933) (cnd (decide (((a1849.Edits.length : Nat) : Int) < 1)) (some 3) (cnd (decide (((a1849.Edits.length : Nat) : Int) > 64)) (some 3) (bnd2 (f2_L0 n a1849 n 0) (fun v1987 => (some v1987.2.2.2.2.2.2.2.2.2.2)) (fun v1988 => (some 0))))))))))))))
theorem f2_ok (n : Nat) (a1849 : GTxn) (r : Int) (h : f2 n a1849 = some r) : pv PP T n 2 [(.agg (c_GTxn a1849))] = some (iv r) := by
 cases n with
 | zero => cases h
 | succ n =>
  rw [f2] at h
  rcases cnd_or h with ⟨h1850, h⟩ | ⟨h1850, h⟩
  ·have g1851 := bool_eq h1850
   obtain rfl := si h
   exact pz F2 ⟨[tt 7], []⟩ (Z g1851 Z0)
  have g1852 := bool_eq h1850
  rcases cnd_or h with ⟨h1853, h⟩ | ⟨h1853, h⟩
  ·have g1854 := bool_eq h1853
   obtain rfl := si h
   exact pz F2 ⟨[ff 7, tt 11], []⟩ (W2 g1854 g1852 Z0)
  have g1855 := bool_eq h1853
  rcases cnd_or h with ⟨h1856, h⟩ | ⟨h1856, h⟩
  ·have g1857 := bool_eq h1856
   obtain rfl := si h
   exact pz F2 ⟨[ff 7, ff 11, tt 16], []⟩ (W2 g1857 g1855 <| Z g1852 Z0)
  have g1858 := bool_eq h1856
  rcases cnd_or h with ⟨h1859, h⟩ | ⟨h1859, h⟩
  ·have g1860 := bool_eq h1859
   obtain rfl := si h
   exact pz F2 ⟨[ff 7, ff 11, ff 16, tt 21], []⟩ (W4 g1860 g1858 g1855 g1852 Z0)
  have g1861 := bool_eq h1859
  rcases cnd_or h with ⟨h1862, h⟩ | ⟨h1862, h⟩
  ·have g1863 := bool_eq h1862
   obtain rfl := si h
   exact pz F2 ⟨[ff 7, ff 11, ff 16, ff 21, tt 26], []⟩ (W4 g1863 g1861 g1858 g1855 <| Z g1852 Z0)
  have g1864 := bool_eq h1862
  rcases cnd_or h with ⟨h1865, h⟩ | ⟨h1865, h⟩
  ·have g1866 := bool_eq h1865
   obtain rfl := si h
   exact pz F2 ⟨[ff 7, ff 11, ff 16, ff 21, ff 26, tt 31], []⟩ (W4 g1866 g1864 g1861 g1858 <| W2 g1855 g1852 Z0)
  have g1867 := bool_eq h1865
  rcases cnd_or h with ⟨h1868, h⟩ | ⟨h1868, h⟩
  ·have g1869 := c_str_neq (P := PP) (cf := evF PP T n) (fl := 0) (H := [(.blk 5 [(c_GTxn a1849)])]) (t := 9) h1868
   have g1870 := len_sl (P := PP) (cf := evF PP T n) (fl := 0) (H := [(.blk 5 [(c_GTxn a1849)])]) (f := false) (c := c_GEdit) (l := a1849.Edits)
   rcases cnd_or h with ⟨h1871, h⟩ | ⟨h1871, h⟩
   ·have g1872 := bool_eq h1871
    obtain rfl := si h
    exact pz F2 ⟨[ff 7, ff 11, ff 16, ff 21, ff 26, ff 31, ff 35, (44, (iv ((a1849.Edits.length : Nat) : Int)), none), tt 45], []⟩ (W8 g1872 g1870 g1869 g1867 g1864 g1861 g1858 g1855 <| Z g1852 Z0)
   have g1873 := bool_eq h1871
   have g1874 := len_sl (P := PP) (cf := evF PP T n) (fl := 0) (H := [(.blk 5 [(c_GTxn a1849)])]) (f := false) (c := c_GEdit) (l := a1849.Edits)
   rcases cnd_or h with ⟨h1875, h⟩ | ⟨h1875, h⟩
   ·have g1876 := bool_eq h1875
    obtain rfl := si h
    exact pz F2 ⟨[ff 7, ff 11, ff 16, ff 21, ff 26, ff 31, ff 35, (44, (iv ((a1849.Edits.length : Nat) : Int)), none), ff 45, (49, (iv ((a1849.Edits.length : Nat) : Int)), none), tt 50], []⟩ (W8 g1876 g1874 g1873 g1870 g1869 g1867 g1864 g1861 <| W2 g1858 g1855 <| Z g1852 Z0)
   have g1877 := bool_eq h1875
   have g1878 := len_sl (P := PP) (cf := evF PP T n) (fl := 0) (H := [(.blk 5 [(c_GTxn a1849)])]) (f := false) (c := c_GEdit) (l := a1849.Edits)
   have g1927 : cleanQ true 0 1 [(.blk 5 [(c_GTxn a1849)])] := (by first | rfl | simp [cleanX, cleanQ, cleanObj, clean1, clean2])
   rcases bnd2_some h with ⟨v1930, e1928, h⟩ | ⟨v1931, e1928, h⟩
   rotate_left
   ·have g1929 := f2_L0_ok n a1849 n 0 _ e1928
    obtain rfl := si h
    exact pv_z (F := F2) ⟨[ff 7, ff 11, ff 16, ff 21, ff 26, ff 31, ff 35, (44, (iv ((a1849.Edits.length : Nat) : Int)), none), ff 45, (49, (iv ((a1849.Edits.length : Nat) : Int)), none), ff 50, (54, (iv ((a1849.Edits.length : Nat) : Int)), none)], []⟩ [((.exit 0), f2_L0_E1 a1849)] [] rfl (W8 g1929 g1927 g1878 g1877 g1874 g1873 g1870 g1869 <| W4 g1867 g1864 g1861 g1858 <| W2 g1855 g1852 Z0) (by kernel_rfl)
   have g1929 := f2_L0_ok n a1849 n 0 _ e1928
   obtain rfl := si h
   exact pv_z (F := F2) ⟨[ff 7, ff 11, ff 16, ff 21, ff 26, ff 31, ff 35, (44, (iv ((a1849.Edits.length : Nat) : Int)), none), ff 45, (49, (iv ((a1849.Edits.length : Nat) : Int)), none), ff 50, (54, (iv ((a1849.Edits.length : Nat) : Int)), none)], []⟩ [(.ret, f2_L0_E0 a1849 v1930.1 v1930.2.1 v1930.2.2.1 v1930.2.2.2.1 v1930.2.2.2.2.1 v1930.2.2.2.2.2.1 v1930.2.2.2.2.2.2.1 v1930.2.2.2.2.2.2.2.1 v1930.2.2.2.2.2.2.2.2.1 v1930.2.2.2.2.2.2.2.2.2.1 v1930.2.2.2.2.2.2.2.2.2.2)] [] rfl (W8 g1929 g1927 g1878 g1877 g1874 g1873 g1870 g1869 <| W4 g1867 g1864 g1861 g1858 <| W2 g1855 g1852 Z0) (by kernel_rfl)
  have g1932 := c_str_neq (P := PP) (cf := evF PP T n) (fl := 0) (H := [(.blk 5 [(c_GTxn a1849)])]) (t := 9) h1868
  obtain ⟨v1933, e1934, h⟩ := bnd_some h
  have g1935 := f11_ok n a1849.Source _ e1934
  rcases cnd_or h with ⟨h1936, h⟩ | ⟨h1936, h⟩
  ·have g1937 := bool_eq h1936
   obtain rfl := si h
   exact pz F2 ⟨[ff 7, ff 11, ff 16, ff 21, ff 26, ff 31, tt 35, (38, (iv v1933), none), tt 40], []⟩ (W8 g1937 g1935 g1932 g1867 g1864 g1861 g1858 g1855 <| Z g1852 Z0)
  have g1938 := bool_eq h1936
  have g1939 := len_sl (P := PP) (cf := evF PP T n) (fl := 0) (H := [(.blk 5 [(c_GTxn a1849)])]) (f := false) (c := c_GEdit) (l := a1849.Edits)
  rcases cnd_or h with ⟨h1940, h⟩ | ⟨h1940, h⟩
  ·have g1941 := bool_eq h1940
   obtain rfl := si h
   exact pz F2 ⟨[ff 7, ff 11, ff 16, ff 21, ff 26, ff 31, tt 35, (38, (iv v1933), none), ff 40, (44, (iv ((a1849.Edits.length : Nat) : Int)), none), tt 45], []⟩ (W8 g1941 g1939 g1938 g1935 g1932 g1867 g1864 g1861 <| W2 g1858 g1855 <| Z g1852 Z0)
  have g1942 := bool_eq h1940
  have g1943 := len_sl (P := PP) (cf := evF PP T n) (fl := 0) (H := [(.blk 5 [(c_GTxn a1849)])]) (f := false) (c := c_GEdit) (l := a1849.Edits)
  rcases cnd_or h with ⟨h1944, h⟩ | ⟨h1944, h⟩
  ·have g1945 := bool_eq h1944
   obtain rfl := si h
   exact pz F2 ⟨[ff 7, ff 11, ff 16, ff 21, ff 26, ff 31, tt 35, (38, (iv v1933), none), ff 40, (44, (iv ((a1849.Edits.length : Nat) : Int)), none), ff 45, (49, (iv ((a1849.Edits.length : Nat) : Int)), none), tt 50], []⟩ (W8 g1945 g1943 g1942 g1939 g1938 g1935 g1932 g1867 <| W4 g1864 g1861 g1858 g1855 <| Z g1852 Z0)
  have g1946 := bool_eq h1944
  have g1947 := len_sl (P := PP) (cf := evF PP T n) (fl := 0) (H := [(.blk 5 [(c_GTxn a1849)])]) (f := false) (c := c_GEdit) (l := a1849.Edits)
  have g1984 : cleanQ true 0 1 [(.blk 5 [(c_GTxn a1849)])] := (by first | rfl | simp [cleanX, cleanQ, cleanObj, clean1, clean2])
  rcases bnd2_some h with ⟨v1987, e1985, h⟩ | ⟨v1988, e1985, h⟩
  rotate_left
  ·have g1986 := f2_L0_ok n a1849 n 0 _ e1985
   obtain rfl := si h
   exact pv_z (F := F2) ⟨[ff 7, ff 11, ff 16, ff 21, ff 26, ff 31, tt 35, (38, (iv v1933), none), ff 40, (44, (iv ((a1849.Edits.length : Nat) : Int)), none), ff 45, (49, (iv ((a1849.Edits.length : Nat) : Int)), none), ff 50, (54, (iv ((a1849.Edits.length : Nat) : Int)), none)], []⟩ [((.exit 0), f2_L0_E1 a1849)] [] rfl (W8 g1986 g1984 g1947 g1946 g1943 g1942 g1939 g1938 <| W8 g1935 g1932 g1867 g1864 g1861 g1858 g1855 g1852 Z0) (by kernel_rfl)
  have g1986 := f2_L0_ok n a1849 n 0 _ e1985
  obtain rfl := si h
  exact pv_z (F := F2) ⟨[ff 7, ff 11, ff 16, ff 21, ff 26, ff 31, tt 35, (38, (iv v1933), none), ff 40, (44, (iv ((a1849.Edits.length : Nat) : Int)), none), ff 45, (49, (iv ((a1849.Edits.length : Nat) : Int)), none), ff 50, (54, (iv ((a1849.Edits.length : Nat) : Int)), none)], []⟩ [(.ret, f2_L0_E0 a1849 v1987.1 v1987.2.1 v1987.2.2.1 v1987.2.2.2.1 v1987.2.2.2.2.1 v1987.2.2.2.2.2.1 v1987.2.2.2.2.2.2.1 v1987.2.2.2.2.2.2.2.1 v1987.2.2.2.2.2.2.2.2.1 v1987.2.2.2.2.2.2.2.2.2.1 v1987.2.2.2.2.2.2.2.2.2.2)] [] rfl (W8 g1986 g1984 g1947 g1946 g1943 g1942 g1939 g1938 <| W8 g1935 g1932 g1867 g1864 g1861 g1858 g1855 g1852 Z0) (by kernel_rfl)
def f58 : Nat → ByteArray → Option Int
 | 0, _ => none
 | n + 1, a1989 => (cnd (((a1989.size : Nat) : Int) == 1) (bnd (sat a1989 0) fun i1993 => (some (IntKind.i64.wrap i1993))) (cnd (((a1989.size : Nat) : Int) == 2) (bnd (sat a1989 0) fun i1999 => (bnd (sat a1989 1) fun i2003 => (some (IntKind.i64.wrap ((IntKind.i64.wrap ((Int.tmod (IntKind.i64.wrap i1999) 32) * 64)) + (Int.tmod (IntKind.i64.wrap i2003) 64)))))) (bnd (sat a1989 0) fun i2008 => (bnd (sat a1989 1) fun i2012 => (bnd (sat a1989 2) fun i2016 => (some (IntKind.i64.wrap ((IntKind.i64.wrap ((IntKind.i64.wrap ((Int.tmod (IntKind.i64.wrap i2008) 16) * 4096)) + (IntKind.i64.wrap ((Int.tmod (IntKind.i64.wrap i2012) 64) * 64)))) + (Int.tmod (IntKind.i64.wrap i2016) 64)))))))))
theorem f58_ok (n : Nat) (a1989 : ByteArray) (r : Int) (h : f58 n a1989 = some r) : pv PP T n 58 [(sv a1989)] = some (iv r) := by
 cases n with
 | zero => cases h
 | succ n =>
  rw [f58] at h
  have g1990 := lenStr_9 (cf := evF PP T n) (fl := 0) (H := []) a1989
  rcases cnd_or h with ⟨h1991, h⟩ | ⟨h1991, h⟩
  ·have g1992 := bool_eq h1991
   obtain ⟨i1993, e1994, h⟩ := bnd_some h
   have g1995 := strIdx_ok (P := PP) (cf := evF PP T n) (fl := 0) (H := []) (t := 9) (by kernel_rfl) e1994
   obtain rfl := si h
   exact pz F58 ⟨[(4, (iv ((a1989.size : Nat) : Int)), none), tt 6, (8, (.lit (.int .u8 i1993)), none)], []⟩ (W2 g1995 g1992 <| Z g1990 Z0)
  have g1996 := bool_eq h1991
  rcases cnd_or h with ⟨h1997, h⟩ | ⟨h1997, h⟩
  ·have g1998 := bool_eq h1997
   obtain ⟨i1999, e2000, h⟩ := bnd_some h
   have g2001 := strIdx_ok (P := PP) (cf := evF PP T n) (fl := 0) (H := []) (t := 9) (by kernel_rfl) e2000
   have g2002 := rem_ok (P := PP) (cf := evF PP T n) (fl := 0) (H := []) (t := 3) (k := .i64) (a := (IntKind.i64.wrap i1999)) (d := 32) (by decide)
   obtain ⟨i2003, e2004, h⟩ := bnd_some h
   have g2005 := strIdx_ok (P := PP) (cf := evF PP T n) (fl := 0) (H := []) (t := 9) (by kernel_rfl) e2004
   have g2006 := rem_ok (P := PP) (cf := evF PP T n) (fl := 0) (H := []) (t := 3) (k := .i64) (a := (IntKind.i64.wrap i2003)) (d := 64) (by decide)
   obtain rfl := si h
   exact pz F58 ⟨[(4, (iv ((a1989.size : Nat) : Int)), none), ff 6, tt 11, (13, (.lit (.int .u8 i1999)), none), (15, (iv (Int.tmod (IntKind.i64.wrap i1999) 32)), none), (18, (.lit (.int .u8 i2003)), none), (20, (iv (Int.tmod (IntKind.i64.wrap i2003) 64)), none)], []⟩ (W4 g2006 g2005 g2002 g2001 <| W2 g1998 g1996 <| Z g1990 Z0)
  have g2007 := bool_eq h1997
  obtain ⟨i2008, e2009, h⟩ := bnd_some h
  have g2010 := strIdx_ok (P := PP) (cf := evF PP T n) (fl := 0) (H := []) (t := 9) (by kernel_rfl) e2009
  have g2011 := rem_ok (P := PP) (cf := evF PP T n) (fl := 0) (H := []) (t := 3) (k := .i64) (a := (IntKind.i64.wrap i2008)) (d := 16) (by decide)
  obtain ⟨i2012, e2013, h⟩ := bnd_some h
  have g2014 := strIdx_ok (P := PP) (cf := evF PP T n) (fl := 0) (H := []) (t := 9) (by kernel_rfl) e2013
  have g2015 := rem_ok (P := PP) (cf := evF PP T n) (fl := 0) (H := []) (t := 3) (k := .i64) (a := (IntKind.i64.wrap i2012)) (d := 64) (by decide)
  obtain ⟨i2016, e2017, h⟩ := bnd_some h
  have g2018 := strIdx_ok (P := PP) (cf := evF PP T n) (fl := 0) (H := []) (t := 9) (by kernel_rfl) e2017
  have g2019 := rem_ok (P := PP) (cf := evF PP T n) (fl := 0) (H := []) (t := 3) (k := .i64) (a := (IntKind.i64.wrap i2016)) (d := 64) (by decide)
  obtain rfl := si h
  exact pz F58 ⟨[(4, (iv ((a1989.size : Nat) : Int)), none), ff 6, ff 11, (23, (.lit (.int .u8 i2008)), none), (25, (iv (Int.tmod (IntKind.i64.wrap i2008) 16)), none), (28, (.lit (.int .u8 i2012)), none), (30, (iv (Int.tmod (IntKind.i64.wrap i2012) 64)), none), (34, (.lit (.int .u8 i2016)), none), (36, (iv (Int.tmod (IntKind.i64.wrap i2016) 64)), none)], []⟩ (W8 g2019 g2018 g2015 g2014 g2011 g2010 g2007 g1996 <| Z g1990 Z0)
def f88 : Nat → Int → Option Bool
 | 0, _ => none
 | n + 1, a2020 => (cnd (decide (a2020 ≥ 48)) (cnd (decide (a2020 ≤ 57)) (some true) (some false)) (some false))
theorem f88_ok (n : Nat) (a2020 : Int) (r : Bool) (h : f88 n a2020 = some r) : pv PP T n 88 [(iv a2020)] = some (bv r) := by
 cases n with
 | zero => cases h
 | succ n =>
  rw [f88] at h
  rcases cnd_or h with ⟨h2021, h⟩ | ⟨h2021, h⟩
  rotate_left
  ·have g2026 := bool_eq h2021
   obtain rfl := si h
   exact pz F88 ⟨[ff 4], []⟩ (Z g2026 Z0)
  have g2022 := bool_eq h2021
  rcases cnd_or h with ⟨h2023, h⟩ | ⟨h2023, h⟩
  ·have g2024 := bool_eq h2023
   obtain rfl := si h
   exact pz F88 ⟨[tt 4, tt 7], []⟩ (W2 g2024 g2022 Z0)
  have g2025 := bool_eq h2023
  obtain rfl := si h
  exact pz F88 ⟨[tt 4, ff 7], []⟩ (W2 g2025 g2022 Z0)
def f59 : Nat → Int → Option Int
 | 0, _ => none
 | n + 1, a2027 => (cnd (a2027 == 32) (some 0) (cnd (a2027 == 39) (some 0) (cnd (a2027 == 40) (some 0) (cnd (a2027 == 41) (some 0) (cnd (a2027 == 45) (some 0) (cnd (a2027 == 46) (some 0) (bnd (f88 n a2027) fun v2046 => (cnd (v2046) (some 0) (cnd (decide (a2027 ≥ 65)) (cnd (decide (a2027 ≤ 90)) (some 1) (cnd (decide (a2027 ≥ 97)) (cnd (decide (a2027 ≤ 122)) (some 1) (cnd (decide (a2027 ≥ 192)) (cnd (decide (a2027 ≤ 591)) (cnd (a2027 != 215) (cnd (a2027 != 247) (some 1) (some (-1))) (some (-1))) (cnd (decide (a2027 ≥ 880)) (cnd (decide (a2027 ≤ 1023)) (some 2) (cnd (decide (a2027 ≤ 1279)) (some 3) (cnd (decide (a2027 ≥ 1488)) (cnd (decide (a2027 ≤ 1514)) (some 4) (cnd (decide (a2027 ≥ 19968)) (cnd (decide (a2027 ≤ 40959)) (some 5) (some (-1))) (some (-1)))) (some (-1))))) (some (-1)))) (some (-1)))) (some (-1)))) (some (-1)))))))))))
theorem f59_ok (n : Nat) (a2027 : Int) (r : Int) (h : f59 n a2027 = some r) : pv PP T n 59 [(iv a2027)] = some (iv r) := by
 cases n with
 | zero => cases h
 | succ n =>
  rw [f59] at h
  rcases cnd_or h with ⟨h2028, h⟩ | ⟨h2028, h⟩
  ·have g2029 := bool_eq h2028
   obtain rfl := si h
   exact pz F59 ⟨[tt 5], []⟩ (Z g2029 Z0)
  have g2030 := bool_eq h2028
  rcases cnd_or h with ⟨h2031, h⟩ | ⟨h2031, h⟩
  ·have g2032 := bool_eq h2031
   obtain rfl := si h
   exact pz F59 ⟨[ff 5, tt 8], []⟩ (W2 g2032 g2030 Z0)
  have g2033 := bool_eq h2031
  rcases cnd_or h with ⟨h2034, h⟩ | ⟨h2034, h⟩
  ·have g2035 := bool_eq h2034
   obtain rfl := si h
   exact pz F59 ⟨[ff 5, ff 8, tt 12], []⟩ (W2 g2035 g2033 <| Z g2030 Z0)
  have g2036 := bool_eq h2034
  rcases cnd_or h with ⟨h2037, h⟩ | ⟨h2037, h⟩
  ·have g2038 := bool_eq h2037
   obtain rfl := si h
   exact pz F59 ⟨[ff 5, ff 8, ff 12, tt 16], []⟩ (W4 g2038 g2036 g2033 g2030 Z0)
  have g2039 := bool_eq h2037
  rcases cnd_or h with ⟨h2040, h⟩ | ⟨h2040, h⟩
  ·have g2041 := bool_eq h2040
   obtain rfl := si h
   exact pz F59 ⟨[ff 5, ff 8, ff 12, ff 16, tt 20], []⟩ (W4 g2041 g2039 g2036 g2033 <| Z g2030 Z0)
  have g2042 := bool_eq h2040
  rcases cnd_or h with ⟨h2043, h⟩ | ⟨h2043, h⟩
  ·have g2044 := bool_eq h2043
   obtain rfl := si h
   exact pz F59 ⟨[ff 5, ff 8, ff 12, ff 16, ff 20, tt 24], []⟩ (W4 g2044 g2042 g2039 g2036 <| W2 g2033 g2030 Z0)
  have g2045 := bool_eq h2043
  obtain ⟨v2046, e2047, h⟩ := bnd_some h
  rcases cnd_or h with ⟨h2048, h⟩ | ⟨h2048, h⟩
  ·have g2049 := by have q := f88_ok n a2027 _ e2047; rw [h2048] at q; exact q
   obtain rfl := si h
   exact pz F59 ⟨[ff 5, ff 8, ff 12, ff 16, ff 20, ff 24, tt 28], []⟩ (W4 g2049 g2045 g2042 g2039 <| W2 g2036 g2033 <| Z g2030 Z0)
  have g2050 := by have q := f88_ok n a2027 _ e2047; rw [h2048] at q; exact q
  rcases cnd_or h with ⟨h2051, h⟩ | ⟨h2051, h⟩
  rotate_left
  ·have g2139 := bool_eq h2051
   have h2140 : (decide (a2027 ≥ 97)) = false := by have q0 := of_decide_eq_false h2051; exact decide_eq_false (by omega)
   have g2141 := bool_eq h2140
   have h2142 : (decide (a2027 ≥ 192)) = false := by have q0 := of_decide_eq_false h2051; exact decide_eq_false (by omega)
   have g2143 := bool_eq h2142
   have h2144 : (decide (a2027 ≥ 880)) = false := by have q0 := of_decide_eq_false h2051; exact decide_eq_false (by omega)
   have g2145 := bool_eq h2144
   have h2146 : (decide (a2027 ≥ 1024)) = false := by have q0 := of_decide_eq_false h2051; exact decide_eq_false (by omega)
   have g2147 := bool_eq h2146
   have h2148 : (decide (a2027 ≥ 1488)) = false := by have q0 := of_decide_eq_false h2051; exact decide_eq_false (by omega)
   have g2149 := bool_eq h2148
   have h2150 : (decide (a2027 ≥ 19968)) = false := by have q0 := of_decide_eq_false h2051; exact decide_eq_false (by omega)
   have g2151 := bool_eq h2150
   obtain rfl := si h
   exact pz F59 ⟨[ff 5, ff 8, ff 12, ff 16, ff 20, ff 24, ff 28, ff 32, ff 39, ff 47, ff 62, ff 69, ff 76, ff 83], []⟩ (W8 g2151 g2149 g2147 g2145 g2143 g2141 g2139 g2050 <| W4 g2045 g2042 g2039 g2036 <| W2 g2033 g2030 Z0)
  have g2052 := bool_eq h2051
  rcases cnd_or h with ⟨h2053, h⟩ | ⟨h2053, h⟩
  ·have g2054 := bool_eq h2053
   obtain rfl := si h
   exact pz F59 ⟨[ff 5, ff 8, ff 12, ff 16, ff 20, ff 24, ff 28, tt 32, tt 35], []⟩ (W8 g2054 g2052 g2050 g2045 g2042 g2039 g2036 g2033 <| Z g2030 Z0)
  have g2055 := bool_eq h2053
  rcases cnd_or h with ⟨h2056, h⟩ | ⟨h2056, h⟩
  rotate_left
  ·have g2128 := bool_eq h2056
   have h2129 : (decide (a2027 ≥ 192)) = false := by have q0 := of_decide_eq_false h2053; have q1 := of_decide_eq_false h2056; exact decide_eq_false (by omega)
   have g2130 := bool_eq h2129
   have h2131 : (decide (a2027 ≥ 880)) = false := by have q0 := of_decide_eq_false h2053; have q1 := of_decide_eq_false h2056; exact decide_eq_false (by omega)
   have g2132 := bool_eq h2131
   have h2133 : (decide (a2027 ≥ 1024)) = false := by have q0 := of_decide_eq_false h2053; have q1 := of_decide_eq_false h2056; exact decide_eq_false (by omega)
   have g2134 := bool_eq h2133
   have h2135 : (decide (a2027 ≥ 1488)) = false := by have q0 := of_decide_eq_false h2053; have q1 := of_decide_eq_false h2056; exact decide_eq_false (by omega)
   have g2136 := bool_eq h2135
   have h2137 : (decide (a2027 ≥ 19968)) = false := by have q0 := of_decide_eq_false h2053; have q1 := of_decide_eq_false h2056; exact decide_eq_false (by omega)
   have g2138 := bool_eq h2137
   obtain rfl := si h
   exact pz F59 ⟨[ff 5, ff 8, ff 12, ff 16, ff 20, ff 24, ff 28, tt 32, ff 35, ff 39, ff 47, ff 62, ff 69, ff 76, ff 83], []⟩ (W8 g2138 g2136 g2134 g2132 g2130 g2128 g2055 g2052 <| W4 g2050 g2045 g2042 g2039 <| W2 g2036 g2033 <| Z g2030 Z0)
  have g2057 := bool_eq h2056
  rcases cnd_or h with ⟨h2058, h⟩ | ⟨h2058, h⟩
  ·have g2059 := bool_eq h2058
   obtain rfl := si h
   exact pz F59 ⟨[ff 5, ff 8, ff 12, ff 16, ff 20, ff 24, ff 28, tt 32, ff 35, tt 39, tt 42], []⟩ (W8 g2059 g2057 g2055 g2052 g2050 g2045 g2042 g2039 <| W2 g2036 g2033 <| Z g2030 Z0)
  have g2060 := bool_eq h2058
  rcases cnd_or h with ⟨h2061, h⟩ | ⟨h2061, h⟩
  rotate_left
  ·have g2119 := bool_eq h2061
   have h2120 : (decide (a2027 ≥ 880)) = false := by have q0 := of_decide_eq_false h2058; have q1 := of_decide_eq_false h2061; exact decide_eq_false (by omega)
   have g2121 := bool_eq h2120
   have h2122 : (decide (a2027 ≥ 1024)) = false := by have q0 := of_decide_eq_false h2058; have q1 := of_decide_eq_false h2061; exact decide_eq_false (by omega)
   have g2123 := bool_eq h2122
   have h2124 : (decide (a2027 ≥ 1488)) = false := by have q0 := of_decide_eq_false h2058; have q1 := of_decide_eq_false h2061; exact decide_eq_false (by omega)
   have g2125 := bool_eq h2124
   have h2126 : (decide (a2027 ≥ 19968)) = false := by have q0 := of_decide_eq_false h2058; have q1 := of_decide_eq_false h2061; exact decide_eq_false (by omega)
   have g2127 := bool_eq h2126
   obtain rfl := si h
   exact pz F59 ⟨[ff 5, ff 8, ff 12, ff 16, ff 20, ff 24, ff 28, tt 32, ff 35, tt 39, ff 42, ff 47, ff 62, ff 69, ff 76, ff 83], []⟩ (W8 g2127 g2125 g2123 g2121 g2119 g2060 g2057 g2055 <| W8 g2052 g2050 g2045 g2042 g2039 g2036 g2033 g2030 Z0)
  have g2062 := bool_eq h2061
  rcases cnd_or h with ⟨h2063, h⟩ | ⟨h2063, h⟩
  ·have g2064 := bool_eq h2063
   rcases cnd_or h with ⟨h2065, h⟩ | ⟨h2065, h⟩
   rotate_left
   ·have g2078 := bool_eq h2065
    have h2079 : (decide (a2027 ≥ 880)) = false := by have q0 := (show a2027 = 215 by simpa using h2065); exact decide_eq_false (by omega)
    have g2080 := bool_eq h2079
    have h2081 : (decide (a2027 ≥ 1024)) = false := by have q0 := (show a2027 = 215 by simpa using h2065); exact decide_eq_false (by omega)
    have g2082 := bool_eq h2081
    have h2083 : (decide (a2027 ≥ 1488)) = false := by have q0 := (show a2027 = 215 by simpa using h2065); exact decide_eq_false (by omega)
    have g2084 := bool_eq h2083
    have h2085 : (decide (a2027 ≥ 19968)) = false := by have q0 := (show a2027 = 215 by simpa using h2065); exact decide_eq_false (by omega)
    have g2086 := bool_eq h2085
    obtain rfl := si h
    exact pz F59 ⟨[ff 5, ff 8, ff 12, ff 16, ff 20, ff 24, ff 28, tt 32, ff 35, tt 39, ff 42, tt 47, tt 50, ff 54, ff 62, ff 69, ff 76, ff 83], []⟩ (W8 g2086 g2084 g2082 g2080 g2078 g2064 g2062 g2060 <| W8 g2057 g2055 g2052 g2050 g2045 g2042 g2039 g2036 <| W2 g2033 g2030 Z0)
   have g2066 := bool_eq h2065
   rcases cnd_or h with ⟨h2067, h⟩ | ⟨h2067, h⟩
   ·have g2068 := bool_eq h2067
    obtain rfl := si h
    exact pz F59 ⟨[ff 5, ff 8, ff 12, ff 16, ff 20, ff 24, ff 28, tt 32, ff 35, tt 39, ff 42, tt 47, tt 50, tt 54, tt 58], []⟩ (W8 g2068 g2066 g2064 g2062 g2060 g2057 g2055 g2052 <| W4 g2050 g2045 g2042 g2039 <| W2 g2036 g2033 <| Z g2030 Z0)
   have g2069 := bool_eq h2067
   have h2070 : (decide (a2027 ≥ 880)) = false := by have q0 := (show a2027 = 247 by simpa using h2067); exact decide_eq_false (by omega)
   have g2071 := bool_eq h2070
   have h2072 : (decide (a2027 ≥ 1024)) = false := by have q0 := (show a2027 = 247 by simpa using h2067); exact decide_eq_false (by omega)
   have g2073 := bool_eq h2072
   have h2074 : (decide (a2027 ≥ 1488)) = false := by have q0 := (show a2027 = 247 by simpa using h2067); exact decide_eq_false (by omega)
   have g2075 := bool_eq h2074
   have h2076 : (decide (a2027 ≥ 19968)) = false := by have q0 := (show a2027 = 247 by simpa using h2067); exact decide_eq_false (by omega)
   have g2077 := bool_eq h2076
   obtain rfl := si h
   exact pz F59 ⟨[ff 5, ff 8, ff 12, ff 16, ff 20, ff 24, ff 28, tt 32, ff 35, tt 39, ff 42, tt 47, tt 50, tt 54, ff 58, ff 62, ff 69, ff 76, ff 83], []⟩ (W8 g2077 g2075 g2073 g2071 g2069 g2066 g2064 g2062 <| W8 g2060 g2057 g2055 g2052 g2050 g2045 g2042 g2039 <| W2 g2036 g2033 <| Z g2030 Z0)
  have g2087 := bool_eq h2063
  rcases cnd_or h with ⟨h2088, h⟩ | ⟨h2088, h⟩
  rotate_left
  ·have g2112 := bool_eq h2088
   have h2113 : (decide (a2027 ≥ 1024)) = false := by have q0 := of_decide_eq_false h2063; have q1 := of_decide_eq_false h2088; exact decide_eq_false (by omega)
   have g2114 := bool_eq h2113
   have h2115 : (decide (a2027 ≥ 1488)) = false := by have q0 := of_decide_eq_false h2063; have q1 := of_decide_eq_false h2088; exact decide_eq_false (by omega)
   have g2116 := bool_eq h2115
   have h2117 : (decide (a2027 ≥ 19968)) = false := by have q0 := of_decide_eq_false h2063; have q1 := of_decide_eq_false h2088; exact decide_eq_false (by omega)
   have g2118 := bool_eq h2117
   obtain rfl := si h
   exact pz F59 ⟨[ff 5, ff 8, ff 12, ff 16, ff 20, ff 24, ff 28, tt 32, ff 35, tt 39, ff 42, tt 47, ff 50, ff 62, ff 69, ff 76, ff 83], []⟩ (W8 g2118 g2116 g2114 g2112 g2087 g2062 g2060 g2057 <| W8 g2055 g2052 g2050 g2045 g2042 g2039 g2036 g2033 <| Z g2030 Z0)
  have g2089 := bool_eq h2088
  rcases cnd_or h with ⟨h2090, h⟩ | ⟨h2090, h⟩
  ·have g2091 := bool_eq h2090
   obtain rfl := si h
   exact pz F59 ⟨[ff 5, ff 8, ff 12, ff 16, ff 20, ff 24, ff 28, tt 32, ff 35, tt 39, ff 42, tt 47, ff 50, tt 62, tt 65], []⟩ (W8 g2091 g2089 g2087 g2062 g2060 g2057 g2055 g2052 <| W4 g2050 g2045 g2042 g2039 <| W2 g2036 g2033 <| Z g2030 Z0)
  have g2092 := bool_eq h2090
  have h2093 : (decide (a2027 ≥ 1024)) = true := by have q0 := of_decide_eq_false h2090; exact decide_eq_true (by omega)
  have g2094 := bool_eq h2093
  rcases cnd_or h with ⟨h2095, h⟩ | ⟨h2095, h⟩
  ·have g2096 := bool_eq h2095
   obtain rfl := si h
   exact pz F59 ⟨[ff 5, ff 8, ff 12, ff 16, ff 20, ff 24, ff 28, tt 32, ff 35, tt 39, ff 42, tt 47, ff 50, tt 62, ff 65, tt 69, tt 72], []⟩ (W8 g2096 g2094 g2092 g2089 g2087 g2062 g2060 g2057 <| W8 g2055 g2052 g2050 g2045 g2042 g2039 g2036 g2033 <| Z g2030 Z0)
  have g2097 := bool_eq h2095
  rcases cnd_or h with ⟨h2098, h⟩ | ⟨h2098, h⟩
  rotate_left
  ·have g2109 := bool_eq h2098
   have h2110 : (decide (a2027 ≥ 19968)) = false := by have q0 := of_decide_eq_false h2095; have q1 := of_decide_eq_false h2098; exact decide_eq_false (by omega)
   have g2111 := bool_eq h2110
   obtain rfl := si h
   exact pz F59 ⟨[ff 5, ff 8, ff 12, ff 16, ff 20, ff 24, ff 28, tt 32, ff 35, tt 39, ff 42, tt 47, ff 50, tt 62, ff 65, tt 69, ff 72, ff 76, ff 83], []⟩ (W8 g2111 g2109 g2097 g2094 g2092 g2089 g2087 g2062 <| W8 g2060 g2057 g2055 g2052 g2050 g2045 g2042 g2039 <| W2 g2036 g2033 <| Z g2030 Z0)
  have g2099 := bool_eq h2098
  rcases cnd_or h with ⟨h2100, h⟩ | ⟨h2100, h⟩
  ·have g2101 := bool_eq h2100
   obtain rfl := si h
   exact pz F59 ⟨[ff 5, ff 8, ff 12, ff 16, ff 20, ff 24, ff 28, tt 32, ff 35, tt 39, ff 42, tt 47, ff 50, tt 62, ff 65, tt 69, ff 72, tt 76, tt 79], []⟩ (W8 g2101 g2099 g2097 g2094 g2092 g2089 g2087 g2062 <| W8 g2060 g2057 g2055 g2052 g2050 g2045 g2042 g2039 <| W2 g2036 g2033 <| Z g2030 Z0)
  have g2102 := bool_eq h2100
  rcases cnd_or h with ⟨h2103, h⟩ | ⟨h2103, h⟩
  rotate_left
  ·have g2108 := bool_eq h2103
   obtain rfl := si h
   exact pz F59 ⟨[ff 5, ff 8, ff 12, ff 16, ff 20, ff 24, ff 28, tt 32, ff 35, tt 39, ff 42, tt 47, ff 50, tt 62, ff 65, tt 69, ff 72, tt 76, ff 79, ff 83], []⟩ (W8 g2108 g2102 g2099 g2097 g2094 g2092 g2089 g2087 <| W8 g2062 g2060 g2057 g2055 g2052 g2050 g2045 g2042 <| W4 g2039 g2036 g2033 g2030 Z0)
  have g2104 := bool_eq h2103
  rcases cnd_or h with ⟨h2105, h⟩ | ⟨h2105, h⟩
  ·have g2106 := bool_eq h2105
   obtain rfl := si h
   exact pz F59 ⟨[ff 5, ff 8, ff 12, ff 16, ff 20, ff 24, ff 28, tt 32, ff 35, tt 39, ff 42, tt 47, ff 50, tt 62, ff 65, tt 69, ff 72, tt 76, ff 79, tt 83, tt 86], []⟩ (W8 g2106 g2104 g2102 g2099 g2097 g2094 g2092 g2089 <| W8 g2087 g2062 g2060 g2057 g2055 g2052 g2050 g2045 <| W4 g2042 g2039 g2036 g2033 <| Z g2030 Z0)
  have g2107 := bool_eq h2105
  obtain rfl := si h
  exact pz F59 ⟨[ff 5, ff 8, ff 12, ff 16, ff 20, ff 24, ff 28, tt 32, ff 35, tt 39, ff 42, tt 47, ff 50, tt 62, ff 65, tt 69, ff 72, tt 76, ff 79, tt 83, ff 86], []⟩ (W8 g2107 g2104 g2102 g2099 g2097 g2094 g2092 g2089 <| W8 g2087 g2062 g2060 g2057 g2055 g2052 g2050 g2045 <| W4 g2042 g2039 g2036 g2033 <| Z g2030 Z0)
def f60 : Nat → Int → Option ByteArray
 | 0, _ => none
 | n + 1, a2152 => (cnd (decide (a2152 < 128)) (some (strOfB [(IntKind.u8.wrap a2152)])) (cnd (decide (a2152 < 2048)) (some (strOfB [(IntKind.u8.wrap (IntKind.i64.wrap (192 + (IntKind.i64.wrap (Int.tdiv a2152 64))))), (IntKind.u8.wrap (IntKind.i64.wrap (128 + (Int.tmod a2152 64))))])) (some (strOfB [(IntKind.u8.wrap (IntKind.i64.wrap (224 + (IntKind.i64.wrap (Int.tdiv a2152 4096))))), (IntKind.u8.wrap (IntKind.i64.wrap (128 + (Int.tmod (IntKind.i64.wrap (Int.tdiv a2152 64)) 64)))), (IntKind.u8.wrap (IntKind.i64.wrap (128 + (Int.tmod a2152 64))))]))))
theorem f60_ok (n : Nat) (a2152 : Int) (r : ByteArray) (h : f60 n a2152 = some r) : pv PP T n 60 [(iv a2152)] = some (sv r) := by
 cases n with
 | zero => cases h
 | succ n =>
  rw [f60] at h
  rcases cnd_or h with ⟨h2153, h⟩ | ⟨h2153, h⟩
  ·have g2154 := bool_eq h2153
   obtain rfl := si h
   exact pz F60 ⟨[tt 5], []⟩ (Z g2154 Z0)
  have g2155 := bool_eq h2153
  rcases cnd_or h with ⟨h2156, h⟩ | ⟨h2156, h⟩
  ·have g2157 := bool_eq h2156
   have g2158 := quo_ok (P := PP) (cf := evF PP T n) (fl := 0) (H := []) (t := 3) (k := .i64) (a := a2152) (d := 64) (by decide)
   have g2159 := rem_ok (P := PP) (cf := evF PP T n) (fl := 0) (H := []) (t := 3) (k := .i64) (a := a2152) (d := 64) (by decide)
   obtain rfl := si h
   exact pz F60 ⟨[ff 5, tt 12, (14, (iv (IntKind.i64.wrap (Int.tdiv a2152 64))), none), (18, (iv (Int.tmod a2152 64)), none)], []⟩ (W4 g2159 g2158 g2157 g2155 Z0)
  have g2160 := bool_eq h2156
  have g2161 := quo_ok (P := PP) (cf := evF PP T n) (fl := 0) (H := []) (t := 3) (k := .i64) (a := a2152) (d := 4096) (by decide)
  have g2162 := quo_ok (P := PP) (cf := evF PP T n) (fl := 0) (H := []) (t := 3) (k := .i64) (a := a2152) (d := 64) (by decide)
  have g2163 := rem_ok (P := PP) (cf := evF PP T n) (fl := 0) (H := []) (t := 3) (k := .i64) (a := (IntKind.i64.wrap (Int.tdiv a2152 64))) (d := 64) (by decide)
  have g2164 := rem_ok (P := PP) (cf := evF PP T n) (fl := 0) (H := []) (t := 3) (k := .i64) (a := a2152) (d := 64) (by decide)
  obtain rfl := si h
  exact pz F60 ⟨[ff 5, ff 12, (24, (iv (IntKind.i64.wrap (Int.tdiv a2152 4096))), none), (28, (iv (IntKind.i64.wrap (Int.tdiv a2152 64))), none), (29, (iv (Int.tmod (IntKind.i64.wrap (Int.tdiv a2152 64)) 64)), none), (33, (iv (Int.tmod a2152 64)), none)], []⟩ (W4 g2164 g2163 g2162 g2161 <| W2 g2160 g2155 Z0)
def f31_L0_S (a2165 : ByteArray) (l2244 : (List Int)) (i2245 : Int) : St := ⟨[(sv a2165), U, U, U, (.ms 0 l2244.length 0 l2244.length), (iv i2245), U, U, U, U, U, U, U, U, U, U, U, U, U, U, U, U, U, U, U, U, U, U, U, U, U, U, U, U, U, U, U, U, U, U, U, U, U, U, U, U, U, U, U, U, U, U, U, U, U, U, U, U, U, U, U], [(.blk 1 (List.map c_i64 l2244))]⟩
def f31_L0_E0 (a2165 : ByteArray) (l2324 : (List Int)) : St := ⟨[U, U, (.sl false []), (iv 4), U, U, U, U, U, U, U, U, U, U, U, U, U, U, U, U, U, U, U, U, U, U, U, U, U, U, U, U, U, U, U, U, U, U, U, U, U, U, U, U, U, U, U, U, U, U, U, U, U, U, U, U, U, U, U, U, U], [(.blk 1 (List.map c_i64 l2324))]⟩
def f31_L0_E1 (a2165 : ByteArray) (l2325 : (List Int)) : St := ⟨[U, U, U, U, (.ms 0 l2325.length 0 l2325.length), U, U, U, U, U, U, U, U, U, U, U, U, U, U, U, U, U, U, U, U, U, U, U, U, U, U, U, U, U, U, U, U, U, U, U, U, U, U, U, U, U, U, U, U, U, U, U, U, U, U, U, U, U, U, U, U], [(.blk 1 (List.map c_i64 l2325))]⟩
def f31_L1_S (a2165 : ByteArray) (i2245 : Int) (l2357 : (List Int)) (i2358 : Int) (i2359 : Int) : St := ⟨[(sv a2165), U, U, U, (.ms 0 l2357.length 0 l2357.length), (iv i2245), (iv i2358), (iv i2359), U, U, U, U, U, U, U, U, U, U, U, U, U, U, U, U, U, U, U, U, U, U, U, U, U, U, U, U, U, U, U, U, U, U, U, U, U, U, U, U, U, U, U, U, U, U, U, U, U, U, U, U, U], [(.blk 1 (List.map c_i64 l2357))]⟩
def f31_L1_E0 (a2165 : ByteArray) (i2245 : Int) (l2394 : (List Int)) (i2395 : Int) : St := ⟨[(sv a2165), U, U, U, (.ms 0 l2394.length 0 l2394.length), (iv i2245), (iv i2395), U, U, U, U, U, U, U, U, U, U, U, U, U, U, U, U, U, U, U, U, U, U, U, U, U, U, U, U, U, U, U, U, U, U, U, U, U, U, U, U, U, U, U, U, U, U, U, U, U, U, U, U, U, U], [(.blk 1 (List.map c_i64 l2394))]⟩
def f31_L1 (n : Nat) (a2165 : ByteArray) (i2245 : Int) : Nat → (List Int) → Int → Int → Option ((List Int) × Int)
 | 0, _, _, _ => none
 | m + 1, l2357, i2358, i2359 => (cnd (decide (i2359 ≤ 3)) (cnd (decide ((IntKind.i64.wrap (i2245 + i2359)) ≤ ((a2165.size : Nat) : Int))) (cnd (i2358 == 0) (bnd (cutS a2165 i2245 (IntKind.i64.wrap (i2245 + i2359))) fun s2403 => (bnd (f58 n s2403) fun v2406 => (bnd (f59 n v2406) fun v2409 => (cnd (decide (v2409 ≥ 0)) (bnd (f60 n v2406) fun v2414 => (bnd (cutS a2165 i2245 (IntKind.i64.wrap (i2245 + i2359))) fun s2417 => (cnd (decide (v2414 = s2417)) (bnd (app l2357 [v2406]) fun l2422 => (f31_L1 n a2165 i2245 m l2422 i2359 (IntKind.i64.wrap (i2359 + 1)))) (f31_L1 n a2165 i2245 m l2357 i2358 (IntKind.i64.wrap (i2359 + 1)))))) (f31_L1 n a2165 i2245 m l2357 i2358 (IntKind.i64.wrap (i2359 + 1))))))) (some (l2357, i2358))) (some (l2357, i2358))) (some (l2357, i2358)))
theorem f31_L1_ok (n : Nat) (a2165 : ByteArray) (i2245 : Int) : ∀ (m : Nat) (l2357 : (List Int)) (i2358 : Int) (i2359 : Int) (r : ((List Int) × Int)), f31_L1 n a2165 i2245 m l2357 i2358 i2359 = some r → maskR [true, false, false, false, true, true, true] [false, false, true, true] false 0 1 (evLoopH (headSt (some [true, false, false, false, true, true, true, true]) false 0 1) (evC PP (evF PP T n) n 0 L31_1) m (f31_L1_S a2165 i2245 l2357 i2358 i2359)) = some ((.exit 2), f31_L1_E0 a2165 i2245 r.1 r.2)
 | 0, _, _, _, _, h => by cases h
 | m + 1, l2357, i2358, i2359, r, h => by
  rw [f31_L1] at h
  rcases cnd_or h with ⟨h2396, h⟩ | ⟨h2396, h⟩
  rotate_left
  ·have g2429 := bool_eq h2396
   obtain rfl := si h
   exact last_z (live := some [true, false, false, false, true, true, true, true]) (tr' := false) (st' := f31_L1_E0 a2165 i2245 l2357 i2358) ⟨[ff 14], []⟩ [] [] rfl (Z g2429 Z0) (by kernel_rfl) trivial
  have g2397 := bool_eq h2396
  have g2398 := lenStr_9 (cf := evF PP T n) (fl := 0) (H := [(.blk 1 (List.map c_i64 l2357))]) a2165
  rcases cnd_or h with ⟨h2399, h⟩ | ⟨h2399, h⟩
  rotate_left
  ·have g2428 := bool_eq h2399
   obtain rfl := si h
   exact last_z (live := some [true, false, false, false, true, true, true, true]) (tr' := false) (st' := f31_L1_E0 a2165 i2245 l2357 i2358) ⟨[tt 14, (20, (iv ((a2165.size : Nat) : Int)), none), ff 21], []⟩ [] [] rfl (W2 g2428 g2398 <| Z g2397 Z0) (by kernel_rfl) trivial
  have g2400 := bool_eq h2399
  rcases cnd_or h with ⟨h2401, h⟩ | ⟨h2401, h⟩
  rotate_left
  ·have g2427 := bool_eq h2401
   obtain rfl := si h
   exact last_z (live := some [true, false, false, false, true, true, true, true]) (tr' := false) (st' := f31_L1_E0 a2165 i2245 l2357 i2358) ⟨[tt 14, (20, (iv ((a2165.size : Nat) : Int)), none), tt 21, ff 25], []⟩ [] [] rfl (W4 g2427 g2400 g2398 g2397 Z0) (by kernel_rfl) trivial
  have g2402 := bool_eq h2401
  obtain ⟨s2403, e2404, h⟩ := bnd_some h
  have g2405 := strCut11 (P := PP) (cf := evF PP T n) (fl := 0) (H := [(.blk 1 (List.map c_i64 l2357))]) (t := 9) e2404
  obtain ⟨v2406, e2407, h⟩ := bnd_some h
  have g2408 := f58_ok n s2403 _ e2407
  obtain ⟨v2409, e2410, h⟩ := bnd_some h
  have g2411 := f59_ok n v2406 _ e2410
  rcases cnd_or h with ⟨h2412, h⟩ | ⟨h2412, h⟩
  rotate_left
  ·have g2426 := bool_eq h2412
   exact (congrArg (maskR [true, false, false, false, true, true, true] [false, false, true, true] false 0 1) (next_z (live := some [true, false, false, false, true, true, true, true]) (tr := false) (st' := f31_L1_S a2165 i2245 l2357 i2358 (IntKind.i64.wrap (i2359 + 1))) ⟨[tt 14, (20, (iv ((a2165.size : Nat) : Int)), none), tt 21, tt 25, (34, (sv s2403), none), (35, (iv v2406), none), (37, (iv v2409), none), ff 38], []⟩ [] [] rfl (W8 g2426 g2411 g2408 g2405 g2402 g2400 g2398 g2397 Z0) (by kernel_rfl) trivial rfl)).trans (f31_L1_ok n a2165 i2245 m l2357 i2358 (IntKind.i64.wrap (i2359 + 1)) r h)
  have g2413 := bool_eq h2412
  obtain ⟨v2414, e2415, h⟩ := bnd_some h
  have g2416 := f60_ok n v2406 _ e2415
  obtain ⟨s2417, e2418, h⟩ := bnd_some h
  have g2419 := strCut11 (P := PP) (cf := evF PP T n) (fl := 0) (H := [(.blk 1 (List.map c_i64 l2357))]) (t := 9) e2418
  rcases cnd_or h with ⟨h2420, h⟩ | ⟨h2420, h⟩
  rotate_left
  ·have g2425 := c_str_eql (P := PP) (cf := evF PP T n) (fl := 0) (H := [(.blk 1 (List.map c_i64 l2357))]) (t := 9) h2420
   exact (congrArg (maskR [true, false, false, false, true, true, true] [false, false, true, true] false 0 1) (next_z (live := some [true, false, false, false, true, true, true, true]) (tr := false) (st' := f31_L1_S a2165 i2245 l2357 i2358 (IntKind.i64.wrap (i2359 + 1))) ⟨[tt 14, (20, (iv ((a2165.size : Nat) : Int)), none), tt 21, tt 25, (34, (sv s2403), none), (35, (iv v2406), none), (37, (iv v2409), none), tt 38, (41, (sv v2414), none), (47, (sv s2417), none), ff 48], []⟩ [] [] rfl (W8 g2425 g2419 g2416 g2413 g2411 g2408 g2405 g2402 <| W2 g2400 g2398 <| Z g2397 Z0) (by kernel_rfl) trivial rfl)).trans (f31_L1_ok n a2165 i2245 m l2357 i2358 (IntKind.i64.wrap (i2359 + 1)) r h)
  have g2421 := c_str_eql (P := PP) (cf := evF PP T n) (fl := 0) (H := [(.blk 1 (List.map c_i64 l2357))]) (t := 9) h2420
  obtain ⟨l2422, e2423, h⟩ := bnd_some h
  have g2424 := app_ms (fl := 0) (H := [(.blk 1 (List.map c_i64 l2357))]) (id := 0) (s := 1) (bytes := 8) (c := c_i64) (l := l2357) e2423 rfl c_i64_len (by omega) (by omega) (by omega)
  exact (congrArg (maskR [true, false, false, false, true, true, true] [false, false, true, true] false 0 1) (next_z (live := some [true, false, false, false, true, true, true, true]) (tr := false) (st' := f31_L1_S a2165 i2245 l2422 i2359 (IntKind.i64.wrap (i2359 + 1))) ⟨[tt 14, (20, (iv ((a2165.size : Nat) : Int)), none), tt 21, tt 25, (34, (sv s2403), none), (35, (iv v2406), none), (37, (iv v2409), none), tt 38, (41, (sv v2414), none), (47, (sv s2417), none), tt 48, (54, (.ms 0 l2422.length 0 l2422.length), (some [(.blk 1 (List.map c_i64 l2422))]))], []⟩ [] [] rfl (W8 g2424 g2421 g2419 g2416 g2413 g2411 g2408 g2405 <| W4 g2402 g2400 g2398 g2397 Z0) (by kernel_rfl) trivial rfl)).trans (f31_L1_ok n a2165 i2245 m l2422 i2359 (IntKind.i64.wrap (i2359 + 1)) r h)
def f31_L0 (n : Nat) (a2165 : ByteArray) : Nat → (List Int) → Int → Option ((List Int) ⊕ (List Int))
 | 0, _, _ => none
 | m + 1, l2244, i2245 => (cnd (decide (i2245 < ((a2165.size : Nat) : Int))) (bnd (f31_L1 n a2165 i2245 n l2244 0 1) fun v2433 => (cnd (v2433.2 == 0) (some (Sum.inl v2433.1)) (f31_L0 n a2165 m v2433.1 (IntKind.i64.wrap (i2245 + v2433.2))))) (some (Sum.inr l2244)))
theorem f31_L0_ok (n : Nat) (a2165 : ByteArray) : ∀ (m : Nat) (l2244 : (List Int)) (i2245 : Int) (r : ((List Int) ⊕ (List Int))), f31_L0 n a2165 m l2244 i2245 = some r → maskR [false, false, false, false, true] [false, false, true, true] false 0 1 (evLoopH (headSt (some [true, false, false, false, true, true]) false 0 1) (evC PP (evF PP T n) n 0 L31_0) m (f31_L0_S a2165 l2244 i2245)) = (match r with | .inl r => some (.ret, f31_L0_E0 a2165 r) | .inr r => some ((.exit 0), f31_L0_E1 a2165 r))
 | 0, _, _, _, h => by cases h
 | m + 1, l2244, i2245, r, h => by
  rw [f31_L0] at h
  have g2326 := lenStr_9 (cf := evF PP T n) (fl := 0) (H := [(.blk 1 (List.map c_i64 l2244))]) a2165
  rcases cnd_or h with ⟨h2327, h⟩ | ⟨h2327, h⟩
  rotate_left
  ·have g2437 := bool_eq h2327
   obtain rfl := si h
   exact last_z (live := some [true, false, false, false, true, true]) (tr' := false) (st' := f31_L0_E1 a2165 l2244) ⟨[(11, (iv ((a2165.size : Nat) : Int)), none), ff 12], []⟩ [] [] rfl (W2 g2437 g2326 Z0) (by kernel_rfl) trivial
  have g2328 := bool_eq h2327
  have g2430 : cleanQ false 0 1 [(.blk 1 (List.map c_i64 l2244))] := trivial
  obtain ⟨v2433, e2431, h⟩ := bnd_some h
  have g2432 := f31_L1_ok n a2165 i2245 n l2244 0 1 _ e2431
  rcases cnd_or h with ⟨h2434, h⟩ | ⟨h2434, h⟩
  ·have g2435 := bool_eq h2434
   obtain rfl := si h
   exact last_z (live := some [true, false, false, false, true, true]) (tr' := false) (st' := f31_L0_E0 a2165 v2433.1) ⟨[(11, (iv ((a2165.size : Nat) : Int)), none), tt 12, tt 56], []⟩ [((.exit 2), f31_L1_E0 a2165 i2245 v2433.1 v2433.2)] [] rfl (W4 g2435 g2432 g2430 g2328 <| Z g2326 Z0) (by kernel_rfl) trivial
  have g2436 := bool_eq h2434
  exact (congrArg (maskR [false, false, false, false, true] [false, false, true, true] false 0 1) (next_z (live := some [true, false, false, false, true, true]) (tr := false) (st' := f31_L0_S a2165 v2433.1 (IntKind.i64.wrap (i2245 + v2433.2))) ⟨[(11, (iv ((a2165.size : Nat) : Int)), none), tt 12, ff 56], []⟩ [((.exit 2), f31_L1_E0 a2165 i2245 v2433.1 v2433.2)] [] rfl (W4 g2436 g2432 g2430 g2328 <| Z g2326 Z0) (by kernel_rfl) trivial rfl)).trans (f31_L0_ok n a2165 m v2433.1 (IntKind.i64.wrap (i2245 + v2433.2)) r h)
def f31 : Nat → ByteArray → Option ((List Int) × Int)
 | 0, _ => none
 | n + 1, a2165 => (bnd2 (f31_L0 n a2165 n [] 0) (fun v2441 => (some ([], 4))) (fun v2442 => (some (v2442, 0))))
theorem f31_ok (n : Nat) (a2165 : ByteArray) (r : ((List Int) × Int)) (h : f31 n a2165 = some r) : pv PP T n 31 [(sv a2165)] = some (.tup [(.sl false (List.map c_i64 r.1)), (iv r.2)]) := by
 cases n with
 | zero => cases h
 | succ n =>
  rw [f31] at h
  have g2438 : cleanQ false 0 1 [(.blk 1 (List.map c_i64 []))] := trivial
  rcases bnd2_some h with ⟨v2441, e2439, h⟩ | ⟨v2442, e2439, h⟩
  ·have g2440 := f31_L0_ok n a2165 n [] 0 _ e2439
   obtain rfl := si h
   exact pv_z (F := F31) ⟨[], []⟩ [(.ret, f31_L0_E0 a2165 v2441)] [] rfl (W2 g2440 g2438 Z0) (by kernel_rfl)
  have g2440 := f31_L0_ok n a2165 n [] 0 _ e2439
  obtain rfl := si h
  refine pv_evF (evF_z (F := F31) ⟨[], []⟩ [((.exit 0), f31_L0_E1 a2165 v2442)] [] rfl (r := (.tup [(.ms 0 v2442.length 0 v2442.length), (iv 0)])) (H' := [(.blk 1 (List.map c_i64 v2442))]) (W2 g2440 g2438 Z0) (by kernel_rfl)) ?_
  show (AV.tup [(seal1 [(.blk 1 (List.map c_i64 v2442))] 0 (.ms 0 v2442.length 0 v2442.length)), (seal1 [(.blk 1 (List.map c_i64 v2442))] 0 (iv 0))]) = _
  rw [seal1_ms (H := [(.blk 1 (List.map c_i64 v2442))]) (id := 0) (s := 1) (c := c_i64) (l := v2442) rfl (c_i64_seal _ _ _)]
  first | done | rfl
def f32_L0_S (a2443 : (List Int)) (i2473 : Int) : St := ⟨[(.sl false (List.map c_i64 a2443)), U, U, (iv i2473), U, U, U, U, U, U, U, U, U, U, U, U, U, U, U, U, U, U, U, U, U, U, U, U, U, U, U, U, U, U, U, U], []⟩
def f32_L0_E0 (a2443 : (List Int)) : St := ⟨[U, U, bt, U, U, U, U, U, U, U, U, U, U, U, U, U, U, U, U, U, U, U, U, U, U, U, U, U, U, U, U, U, U, U, U, U], []⟩
def f32_L0_E1 (a2443 : (List Int)) : St := ⟨[U, U, U, U, U, U, U, U, U, U, U, U, U, U, U, U, U, U, U, U, U, U, U, U, U, U, U, U, U, U, U, U, U, U, U, U], []⟩
def f32_L0 (n : Nat) (a2443 : (List Int)) : Nat → Int → Option (Unit ⊕ Unit)
 | 0, _ => none
 | m + 1, i2473 => (cnd (decide (i2473 < ((a2443.length : Nat) : Int))) (bnd (idx a2443 i2473) fun x2493 => (cnd (x2493 == 32) (bnd (idx a2443 (IntKind.i64.wrap (i2473 - 1))) fun x2498 => (cnd (x2498 == 32) (some (Sum.inl ())) (f32_L0 n a2443 m (IntKind.i64.wrap (i2473 + 1))))) (f32_L0 n a2443 m (IntKind.i64.wrap (i2473 + 1))))) (some (Sum.inr ())))
theorem f32_L0_ok (n : Nat) (a2443 : (List Int)) : ∀ (m : Nat) (i2473 : Int) (r : (Unit ⊕ Unit)), f32_L0 n a2443 m i2473 = some r → maskR [] [false, false, true] false 0 0 (evLoopH (headSt (some [true, false, false, true]) false 0 0) (evC PP (evF PP T n) n 0 L32_0) m (f32_L0_S a2443 i2473)) = (match r with | .inl r => some (.ret, f32_L0_E0 a2443) | .inr r => some ((.exit 0), f32_L0_E1 a2443))
 | 0, _, _, h => by cases h
 | m + 1, i2473, r, h => by
  rw [f32_L0] at h
  have g2490 := len_sl (P := PP) (cf := evF PP T n) (fl := 0) (H := []) (f := false) (c := c_i64) (l := a2443)
  rcases cnd_or h with ⟨h2491, h⟩ | ⟨h2491, h⟩
  rotate_left
  ·have g2505 := bool_eq h2491
   obtain rfl := si h
   exact last_z (live := some [true, false, false, true]) (tr' := false) (st' := f32_L0_E1 a2443) ⟨[(19, (iv ((a2443.length : Nat) : Int)), none), ff 20], []⟩ [] [] rfl (W2 g2505 g2490 Z0) (by kernel_rfl) trivial
  have g2492 := bool_eq h2491
  obtain ⟨x2493, e2494, h⟩ := bnd_some h
  have g2495 := idxl (H := []) (f := false) (c := c_i64) e2494 (c_i64_len _)
  rcases cnd_or h with ⟨h2496, h⟩ | ⟨h2496, h⟩
  rotate_left
  ·have g2504 := bool_eq h2496
   exact (congrArg (maskR [] [false, false, true] false 0 0) (next_z (live := some [true, false, false, true]) (tr := false) (st' := f32_L0_S a2443 (IntKind.i64.wrap (i2473 + 1))) ⟨[(19, (iv ((a2443.length : Nat) : Int)), none), tt 20, (25, (.rptr [(iv x2493)]), none), ff 27], []⟩ [] [] rfl (W4 g2504 g2495 g2492 g2490 Z0) (by kernel_rfl) trivial rfl)).trans (f32_L0_ok n a2443 m (IntKind.i64.wrap (i2473 + 1)) r h)
  have g2497 := bool_eq h2496
  obtain ⟨x2498, e2499, h⟩ := bnd_some h
  have g2500 := idxl (H := []) (f := false) (c := c_i64) e2499 (c_i64_len _)
  rcases cnd_or h with ⟨h2501, h⟩ | ⟨h2501, h⟩
  ·have g2502 := bool_eq h2501
   obtain rfl := si h
   exact last_z (live := some [true, false, false, true]) (tr' := false) (st' := f32_L0_E0 a2443) ⟨[(19, (iv ((a2443.length : Nat) : Int)), none), tt 20, (25, (.rptr [(iv x2493)]), none), tt 27, (32, (.rptr [(iv x2498)]), none), tt 34], []⟩ [] [] rfl (W4 g2502 g2500 g2497 g2495 <| W2 g2492 g2490 Z0) (by kernel_rfl) trivial
  have g2503 := bool_eq h2501
  exact (congrArg (maskR [] [false, false, true] false 0 0) (next_z (live := some [true, false, false, true]) (tr := false) (st' := f32_L0_S a2443 (IntKind.i64.wrap (i2473 + 1))) ⟨[(19, (iv ((a2443.length : Nat) : Int)), none), tt 20, (25, (.rptr [(iv x2493)]), none), tt 27, (32, (.rptr [(iv x2498)]), none), ff 34], []⟩ [] [] rfl (W4 g2503 g2500 g2497 g2495 <| W2 g2492 g2490 Z0) (by kernel_rfl) trivial rfl)).trans (f32_L0_ok n a2443 m (IntKind.i64.wrap (i2473 + 1)) r h)
def f32 : Nat → (List Int) → Option Bool
 | 0, _ => none
 | n + 1, a2443 => (bnd (idx a2443 0) fun x2444 => (cnd (x2444 == 32) (some true) (bnd (idx a2443 (IntKind.i64.wrap (((a2443.length : Nat) : Int) - 1))) fun x2451 => (cnd (x2451 == 32) (some true) (bnd2 (f32_L0 n a2443 n 1) (fun v2509 => (some true)) (fun v2510 => (some false)))))))
theorem f32_ok (n : Nat) (a2443 : (List Int)) (r : Bool) (h : f32 n a2443 = some r) : pv PP T n 32 [(.sl false (List.map c_i64 a2443))] = some (bv r) := by
 cases n with
 | zero => cases h
 | succ n =>
  rw [f32] at h
  obtain ⟨x2444, e2445, h⟩ := bnd_some h
  have g2446 := idxl (H := []) (f := false) (c := c_i64) e2445 (c_i64_len _)
  rcases cnd_or h with ⟨h2447, h⟩ | ⟨h2447, h⟩
  ·have g2448 := bool_eq h2447
   obtain rfl := si h
   exact pz F32 ⟨[(5, (.rptr [(iv x2444)]), none), tt 7], []⟩ (W2 g2448 g2446 Z0)
  have g2449 := bool_eq h2447
  have g2450 := len_sl (P := PP) (cf := evF PP T n) (fl := 0) (H := []) (f := false) (c := c_i64) (l := a2443)
  obtain ⟨x2451, e2452, h⟩ := bnd_some h
  have g2453 := idxl (H := []) (f := false) (c := c_i64) e2452 (c_i64_len _)
  rcases cnd_or h with ⟨h2454, h⟩ | ⟨h2454, h⟩
  ·have g2455 := bool_eq h2454
   obtain rfl := si h
   exact pz F32 ⟨[(5, (.rptr [(iv x2444)]), none), ff 7, (11, (iv ((a2443.length : Nat) : Int)), none), (13, (.rptr [(iv x2451)]), none), tt 15], []⟩ (W4 g2455 g2453 g2450 g2449 <| Z g2446 Z0)
  have g2456 := bool_eq h2454
  have g2506 : cleanQ false 0 0 [] := trivial
  rcases bnd2_some h with ⟨v2509, e2507, h⟩ | ⟨v2510, e2507, h⟩
  ·have g2508 := f32_L0_ok n a2443 n 1 _ e2507
   obtain rfl := si h
   exact pv_z (F := F32) ⟨[(5, (.rptr [(iv x2444)]), none), ff 7, (11, (iv ((a2443.length : Nat) : Int)), none), (13, (.rptr [(iv x2451)]), none), ff 15], []⟩ [(.ret, f32_L0_E0 a2443)] [] rfl (W4 g2508 g2506 g2456 g2453 <| W2 g2450 g2449 <| Z g2446 Z0) (by kernel_rfl)
  have g2508 := f32_L0_ok n a2443 n 1 _ e2507
  obtain rfl := si h
  exact pv_z (F := F32) ⟨[(5, (.rptr [(iv x2444)]), none), ff 7, (11, (iv ((a2443.length : Nat) : Int)), none), (13, (.rptr [(iv x2451)]), none), ff 15], []⟩ [((.exit 0), f32_L0_E1 a2443)] [] rfl (W4 g2508 g2506 g2456 g2453 <| W2 g2450 g2449 <| Z g2446 Z0) (by kernel_rfl)
def f33_L0_S (a2511 : (List Int)) (i2525 : Int) : St := ⟨[(.sl false (List.map c_i64 a2511)), U, U, (iv i2525), U, U, U, U, U, U, U, U, U, U, U, U], []⟩
def f33_L0_E0 (a2511 : (List Int)) : St := ⟨[U, U, bf, U, U, U, U, U, U, U, U, U, U, U, U, U], []⟩
def f33_L0_E1 (a2511 : (List Int)) : St := ⟨[U, U, U, U, U, U, U, U, U, U, U, U, U, U, U, U], []⟩
def f33_L0 (n : Nat) (a2511 : (List Int)) : Nat → Int → Option (Unit ⊕ Unit)
 | 0, _ => none
 | m + 1, i2525 => (cnd (decide (i2525 < ((a2511.length : Nat) : Int))) (bnd (idx a2511 i2525) fun x2542 => (bnd (f59 n x2542) fun v2545 => (cnd (v2545 != 0) (some (Sum.inl ())) (f33_L0 n a2511 m (IntKind.i64.wrap (i2525 + 1)))))) (some (Sum.inr ())))
theorem f33_L0_ok (n : Nat) (a2511 : (List Int)) : ∀ (m : Nat) (i2525 : Int) (r : (Unit ⊕ Unit)), f33_L0 n a2511 m i2525 = some r → maskR [] [false, false, true] false 0 0 (evLoopH (headSt (some [true, false, false, true]) false 0 0) (evC PP (evF PP T n) n 0 L33_0) m (f33_L0_S a2511 i2525)) = (match r with | .inl r => some (.ret, f33_L0_E0 a2511) | .inr r => some ((.exit 0), f33_L0_E1 a2511))
 | 0, _, _, h => by cases h
 | m + 1, i2525, r, h => by
  rw [f33_L0] at h
  have g2539 := len_sl (P := PP) (cf := evF PP T n) (fl := 0) (H := []) (f := false) (c := c_i64) (l := a2511)
  rcases cnd_or h with ⟨h2540, h⟩ | ⟨h2540, h⟩
  rotate_left
  ·have g2551 := bool_eq h2540
   obtain rfl := si h
   exact last_z (live := some [true, false, false, true]) (tr' := false) (st' := f33_L0_E1 a2511) ⟨[(6, (iv ((a2511.length : Nat) : Int)), none), ff 7], []⟩ [] [] rfl (W2 g2551 g2539 Z0) (by kernel_rfl) trivial
  have g2541 := bool_eq h2540
  obtain ⟨x2542, e2543, h⟩ := bnd_some h
  have g2544 := idxl (H := []) (f := false) (c := c_i64) e2543 (c_i64_len _)
  obtain ⟨v2545, e2546, h⟩ := bnd_some h
  have g2547 := f59_ok n x2542 _ e2546
  rcases cnd_or h with ⟨h2548, h⟩ | ⟨h2548, h⟩
  ·have g2549 := bool_eq h2548
   obtain rfl := si h
   exact last_z (live := some [true, false, false, true]) (tr' := false) (st' := f33_L0_E0 a2511) ⟨[(6, (iv ((a2511.length : Nat) : Int)), none), tt 7, (12, (.rptr [(iv x2542)]), none), (14, (iv v2545), none), tt 15], []⟩ [] [] rfl (W4 g2549 g2547 g2544 g2541 <| Z g2539 Z0) (by kernel_rfl) trivial
  have g2550 := bool_eq h2548
  exact (congrArg (maskR [] [false, false, true] false 0 0) (next_z (live := some [true, false, false, true]) (tr := false) (st' := f33_L0_S a2511 (IntKind.i64.wrap (i2525 + 1))) ⟨[(6, (iv ((a2511.length : Nat) : Int)), none), tt 7, (12, (.rptr [(iv x2542)]), none), (14, (iv v2545), none), ff 15], []⟩ [] [] rfl (W4 g2550 g2547 g2544 g2541 <| Z g2539 Z0) (by kernel_rfl) trivial rfl)).trans (f33_L0_ok n a2511 m (IntKind.i64.wrap (i2525 + 1)) r h)
def f33 : Nat → (List Int) → Option Bool
 | 0, _ => none
 | n + 1, a2511 => (bnd2 (f33_L0 n a2511 n 0) (fun v2555 => (some false)) (fun v2556 => (some true)))
theorem f33_ok (n : Nat) (a2511 : (List Int)) (r : Bool) (h : f33 n a2511 = some r) : pv PP T n 33 [(.sl false (List.map c_i64 a2511))] = some (bv r) := by
 cases n with
 | zero => cases h
 | succ n =>
  rw [f33] at h
  have g2552 : cleanQ false 0 0 [] := trivial
  rcases bnd2_some h with ⟨v2555, e2553, h⟩ | ⟨v2556, e2553, h⟩
  ·have g2554 := f33_L0_ok n a2511 n 0 _ e2553
   obtain rfl := si h
   exact pv_z (F := F33) ⟨[], []⟩ [(.ret, f33_L0_E0 a2511)] [] rfl (W2 g2554 g2552 Z0) (by kernel_rfl)
  have g2554 := f33_L0_ok n a2511 n 0 _ e2553
  obtain rfl := si h
  exact pv_z (F := F33) ⟨[], []⟩ [((.exit 0), f33_L0_E1 a2511)] [] rfl (W2 g2554 g2552 Z0) (by kernel_rfl)
def f13 : Nat → ByteArray → Option Int
 | 0, _ => none
 | n + 1, a2557 => (cnd (decide (a2557 = (⟨#[]⟩ : ByteArray))) (some 14) (cnd (decide (((a2557.size : Nat) : Int) > 40)) (some 3) (bnd (f31 n a2557) fun v2565 => (cnd (v2565.2 != 0) (some v2565.2) (cnd (((v2565.1.length : Nat) : Int) == 0) (some 14) (bnd (f32 n v2565.1) fun v2575 => (cnd (v2575) (some 14) (bnd (f33 n v2565.1) fun v2580 => (cnd (v2580) (some 14) (some 0))))))))))
theorem f13_ok (n : Nat) (a2557 : ByteArray) (r : Int) (h : f13 n a2557 = some r) : pv PP T n 13 [(sv a2557)] = some (iv r) := by
 cases n with
 | zero => cases h
 | succ n =>
  rw [f13] at h
  rcases cnd_or h with ⟨h2558, h⟩ | ⟨h2558, h⟩
  ·have g2559 := c_str_eql (P := PP) (cf := evF PP T n) (fl := 0) (H := []) (t := 9) h2558
   obtain rfl := si h
   exact pz F13 ⟨[tt 6], []⟩ (Z g2559 Z0)
  have g2560 := c_str_eql (P := PP) (cf := evF PP T n) (fl := 0) (H := []) (t := 9) h2558
  have g2561 := lenStr_9 (cf := evF PP T n) (fl := 0) (H := []) a2557
  rcases cnd_or h with ⟨h2562, h⟩ | ⟨h2562, h⟩
  ·have g2563 := bool_eq h2562
   obtain rfl := si h
   exact pz F13 ⟨[ff 6, (8, (iv ((a2557.size : Nat) : Int)), none), tt 9], []⟩ (W2 g2563 g2561 <| Z g2560 Z0)
  have g2564 := bool_eq h2562
  obtain ⟨v2565, e2566, h⟩ := bnd_some h
  have g2567 := f31_ok n a2557 _ e2566
  rcases cnd_or h with ⟨h2568, h⟩ | ⟨h2568, h⟩
  ·have g2569 := bool_eq h2568
   obtain rfl := si h
   exact pz F13 ⟨[ff 6, (8, (iv ((a2557.size : Nat) : Int)), none), ff 9, (12, (.tup [(.sl false (List.map c_i64 v2565.1)), (iv v2565.2)]), none), tt 16], []⟩ (W4 g2569 g2567 g2564 g2561 <| Z g2560 Z0)
  have g2570 := bool_eq h2568
  have g2571 := len_sl (P := PP) (cf := evF PP T n) (fl := 0) (H := []) (f := false) (c := c_i64) (l := v2565.1)
  rcases cnd_or h with ⟨h2572, h⟩ | ⟨h2572, h⟩
  ·have g2573 := bool_eq h2572
   obtain rfl := si h
   exact pz F13 ⟨[ff 6, (8, (iv ((a2557.size : Nat) : Int)), none), ff 9, (12, (.tup [(.sl false (List.map c_i64 v2565.1)), (iv v2565.2)]), none), ff 16, (19, (iv ((v2565.1.length : Nat) : Int)), none), tt 20], []⟩ (W4 g2573 g2571 g2570 g2567 <| W2 g2564 g2561 <| Z g2560 Z0)
  have g2574 := bool_eq h2572
  obtain ⟨v2575, e2576, h⟩ := bnd_some h
  rcases cnd_or h with ⟨h2577, h⟩ | ⟨h2577, h⟩
  ·have g2578 := by have q := f32_ok n v2565.1 _ e2576; rw [h2577] at q; exact q
   obtain rfl := si h
   exact pz F13 ⟨[ff 6, (8, (iv ((a2557.size : Nat) : Int)), none), ff 9, (12, (.tup [(.sl false (List.map c_i64 v2565.1)), (iv v2565.2)]), none), ff 16, (19, (iv ((v2565.1.length : Nat) : Int)), none), ff 20, tt 23], []⟩ (W8 g2578 g2574 g2571 g2570 g2567 g2564 g2561 g2560 Z0)
  have g2579 := by have q := f32_ok n v2565.1 _ e2576; rw [h2577] at q; exact q
  obtain ⟨v2580, e2581, h⟩ := bnd_some h
  rcases cnd_or h with ⟨h2582, h⟩ | ⟨h2582, h⟩
  ·have g2583 := by have q := f33_ok n v2565.1 _ e2581; rw [h2582] at q; exact q
   obtain rfl := si h
   exact pz F13 ⟨[ff 6, (8, (iv ((a2557.size : Nat) : Int)), none), ff 9, (12, (.tup [(.sl false (List.map c_i64 v2565.1)), (iv v2565.2)]), none), ff 16, (19, (iv ((v2565.1.length : Nat) : Int)), none), ff 20, ff 23, tt 27], []⟩ (W8 g2583 g2579 g2574 g2571 g2570 g2567 g2564 g2561 <| Z g2560 Z0)
  have g2584 := by have q := f33_ok n v2565.1 _ e2581; rw [h2582] at q; exact q
  obtain rfl := si h
  exact pz F13 ⟨[ff 6, (8, (iv ((a2557.size : Nat) : Int)), none), ff 9, (12, (.tup [(.sl false (List.map c_i64 v2565.1)), (iv v2565.2)]), none), ff 16, (19, (iv ((v2565.1.length : Nat) : Int)), none), ff 20, ff 23, ff 27], []⟩ (W8 g2584 g2579 g2574 g2571 g2570 g2567 g2564 g2561 <| Z g2560 Z0)
def f34 : Nat → Int → Option Int
 | 0, _ => none
 | n + 1, a2585 => (cnd (a2585 == 1) (some 1) (cnd (a2585 == 2) (some 1) (cnd (a2585 == 8) (some 1) (cnd (a2585 == 3) (some 2) (cnd (a2585 == 4) (some 2) (cnd (a2585 == 5) (some 3) (cnd (a2585 == 6) (some 3) (cnd (a2585 == 7) (some 3) (some 0)))))))))
theorem f34_ok (n : Nat) (a2585 : Int) (r : Int) (h : f34 n a2585 = some r) : pv PP T n 34 [(iv a2585)] = some (iv r) := by
 cases n with
 | zero => cases h
 | succ n =>
  rw [f34] at h
  rcases cnd_or h with ⟨h2586, h⟩ | ⟨h2586, h⟩
  ·have g2587 := bool_eq h2586
   obtain rfl := si h
   exact pz F34 ⟨[tt 5], []⟩ (Z g2587 Z0)
  have g2588 := bool_eq h2586
  rcases cnd_or h with ⟨h2589, h⟩ | ⟨h2589, h⟩
  ·have g2590 := bool_eq h2589
   obtain rfl := si h
   exact pz F34 ⟨[ff 5, tt 6], []⟩ (W2 g2590 g2588 Z0)
  have g2591 := bool_eq h2589
  rcases cnd_or h with ⟨h2592, h⟩ | ⟨h2592, h⟩
  ·have g2593 := bool_eq h2592
   obtain rfl := si h
   exact pz F34 ⟨[ff 5, ff 6, tt 7], []⟩ (W2 g2593 g2591 <| Z g2588 Z0)
  have g2594 := bool_eq h2592
  rcases cnd_or h with ⟨h2595, h⟩ | ⟨h2595, h⟩
  ·have g2596 := bool_eq h2595
   obtain rfl := si h
   exact pz F34 ⟨[ff 5, ff 6, ff 7, tt 9], []⟩ (W4 g2596 g2594 g2591 g2588 Z0)
  have g2597 := bool_eq h2595
  rcases cnd_or h with ⟨h2598, h⟩ | ⟨h2598, h⟩
  ·have g2599 := bool_eq h2598
   obtain rfl := si h
   exact pz F34 ⟨[ff 5, ff 6, ff 7, ff 9, tt 10], []⟩ (W4 g2599 g2597 g2594 g2591 <| Z g2588 Z0)
  have g2600 := bool_eq h2598
  rcases cnd_or h with ⟨h2601, h⟩ | ⟨h2601, h⟩
  ·have g2602 := bool_eq h2601
   obtain rfl := si h
   exact pz F34 ⟨[ff 5, ff 6, ff 7, ff 9, ff 10, tt 12], []⟩ (W4 g2602 g2600 g2597 g2594 <| W2 g2591 g2588 Z0)
  have g2603 := bool_eq h2601
  rcases cnd_or h with ⟨h2604, h⟩ | ⟨h2604, h⟩
  ·have g2605 := bool_eq h2604
   obtain rfl := si h
   exact pz F34 ⟨[ff 5, ff 6, ff 7, ff 9, ff 10, ff 12, tt 13], []⟩ (W4 g2605 g2603 g2600 g2597 <| W2 g2594 g2591 <| Z g2588 Z0)
  have g2606 := bool_eq h2604
  rcases cnd_or h with ⟨h2607, h⟩ | ⟨h2607, h⟩
  ·have g2608 := bool_eq h2607
   obtain rfl := si h
   exact pz F34 ⟨[ff 5, ff 6, ff 7, ff 9, ff 10, ff 12, ff 13, tt 14], []⟩ (W8 g2608 g2606 g2603 g2600 g2597 g2594 g2591 g2588 Z0)
  have g2609 := bool_eq h2607
  obtain rfl := si h
  exact pz F34 ⟨[ff 5, ff 6, ff 7, ff 9, ff 10, ff 12, ff 13, ff 14], []⟩ (W8 g2609 g2606 g2603 g2600 g2597 g2594 g2591 g2588 Z0)
def f35 : Nat → Int → Option ByteArray
 | 0, _ => none
 | n + 1, a2610 => (cnd (a2610 == 1) (some ⟨#[116]⟩) (cnd (a2610 == 3) (some ⟨#[116]⟩) (cnd (a2610 == 4) (some ⟨#[97, 98, 99, 118]⟩) (cnd (a2610 == 6) (some ⟨#[118]⟩) (cnd (a2610 == 7) (some ⟨#[97, 98, 110, 112]⟩) (cnd (a2610 == 9) (some ⟨#[110]⟩) (cnd (a2610 == 10) (some ⟨#[98]⟩) (cnd (a2610 == 11) (some ⟨#[112]⟩) (cnd (a2610 == 12) (some ⟨#[97]⟩) (some ⟨#[]⟩))))))))))
theorem f35_ok (n : Nat) (a2610 : Int) (r : ByteArray) (h : f35 n a2610 = some r) : pv PP T n 35 [(iv a2610)] = some (sv r) := by
 cases n with
 | zero => cases h
 | succ n =>
  rw [f35] at h
  rcases cnd_or h with ⟨h2611, h⟩ | ⟨h2611, h⟩
  ·have g2612 := bool_eq h2611
   obtain rfl := si h
   exact pz F35 ⟨[tt 5], []⟩ (Z g2612 Z0)
  have g2613 := bool_eq h2611
  rcases cnd_or h with ⟨h2614, h⟩ | ⟨h2614, h⟩
  ·have g2615 := bool_eq h2614
   obtain rfl := si h
   exact pz F35 ⟨[ff 5, tt 6], []⟩ (W2 g2615 g2613 Z0)
  have g2616 := bool_eq h2614
  rcases cnd_or h with ⟨h2617, h⟩ | ⟨h2617, h⟩
  ·have g2618 := bool_eq h2617
   obtain rfl := si h
   exact pz F35 ⟨[ff 5, ff 6, tt 8], []⟩ (W2 g2618 g2616 <| Z g2613 Z0)
  have g2619 := bool_eq h2617
  rcases cnd_or h with ⟨h2620, h⟩ | ⟨h2620, h⟩
  ·have g2621 := bool_eq h2620
   obtain rfl := si h
   exact pz F35 ⟨[ff 5, ff 6, ff 8, tt 10], []⟩ (W4 g2621 g2619 g2616 g2613 Z0)
  have g2622 := bool_eq h2620
  rcases cnd_or h with ⟨h2623, h⟩ | ⟨h2623, h⟩
  ·have g2624 := bool_eq h2623
   obtain rfl := si h
   exact pz F35 ⟨[ff 5, ff 6, ff 8, ff 10, tt 12], []⟩ (W4 g2624 g2622 g2619 g2616 <| Z g2613 Z0)
  have g2625 := bool_eq h2623
  rcases cnd_or h with ⟨h2626, h⟩ | ⟨h2626, h⟩
  ·have g2627 := bool_eq h2626
   obtain rfl := si h
   exact pz F35 ⟨[ff 5, ff 6, ff 8, ff 10, ff 12, tt 14], []⟩ (W4 g2627 g2625 g2622 g2619 <| W2 g2616 g2613 Z0)
  have g2628 := bool_eq h2626
  rcases cnd_or h with ⟨h2629, h⟩ | ⟨h2629, h⟩
  ·have g2630 := bool_eq h2629
   obtain rfl := si h
   exact pz F35 ⟨[ff 5, ff 6, ff 8, ff 10, ff 12, ff 14, tt 16], []⟩ (W4 g2630 g2628 g2625 g2622 <| W2 g2619 g2616 <| Z g2613 Z0)
  have g2631 := bool_eq h2629
  rcases cnd_or h with ⟨h2632, h⟩ | ⟨h2632, h⟩
  ·have g2633 := bool_eq h2632
   obtain rfl := si h
   exact pz F35 ⟨[ff 5, ff 6, ff 8, ff 10, ff 12, ff 14, ff 16, tt 18], []⟩ (W8 g2633 g2631 g2628 g2625 g2622 g2619 g2616 g2613 Z0)
  have g2634 := bool_eq h2632
  rcases cnd_or h with ⟨h2635, h⟩ | ⟨h2635, h⟩
  ·have g2636 := bool_eq h2635
   obtain rfl := si h
   exact pz F35 ⟨[ff 5, ff 6, ff 8, ff 10, ff 12, ff 14, ff 16, ff 18, tt 20], []⟩ (W8 g2636 g2634 g2631 g2628 g2625 g2622 g2619 g2616 <| Z g2613 Z0)
  have g2637 := bool_eq h2635
  obtain rfl := si h
  exact pz F35 ⟨[ff 5, ff 6, ff 8, ff 10, ff 12, ff 14, ff 16, ff 18, ff 20], []⟩ (W8 g2637 g2634 g2631 g2628 g2625 g2622 g2619 g2616 <| Z g2613 Z0)
def f36_0 : Nat → GEdit → Option Bool
 | 0, _ => none
 | n + 1, a2638 => (bnd (prdk 1 n) fun n2639 => (cnd (decide (a2638.At = (GPoint.mk 0 0))) (cnd (a2638.A != 0) (some false) (cnd (a2638.B != 0) (some false) (cnd (a2638.C != 0) (some false) (cnd (((a2638.Via.length : Nat) : Int) == 0) (cnd (decide (a2638.Name = (⟨#[]⟩ : ByteArray))) (cnd (((a2638.Parts.length : Nat) : Int) == 0) (some true) (some false)) (some false)) (some false))))) (some false)))
theorem f36_0_ok (n : Nat) (a2638 : GEdit) (r : Bool) (h : f36_0 n a2638 = some r) : pv PP T n 36 [(.agg (c_GEdit a2638)), (sv (⟨#[]⟩))] = some (bv r) := by
 cases n with
 | zero => cases h
 | succ n =>
  rw [f36_0] at h
  obtain ⟨n2639, e2640, h⟩ := bnd_some h
  have q2641 := prdk_eq e2640
  have g2642 : cleanQ false 0 1 [(.blk 10 [(c_GEdit a2638)])] := trivial
  have g2643 : maskR [false, false, true, false, false, true, true, true, true, true, true, true] [false, false, false, false, true] false 0 1 (evLoopH (headSt (some [false, true, true, false, false, true, true, true, true, true, true, true, true]) false 0 1) (evC PP (evF PP T n) n 0 L36_0) n ⟨[U, (sv (⟨#[]⟩)), (.ptr 0 1 0 0), U, U, bf, bf, bf, bf, bf, bf, bf, (iv 0), U, U, U, U, U, U, U, U, U, U, U, U, U, U, U, U, U, U, U, U, U, U, U, U, U, U, U, U, U, U, U, U, U, U, U, U, U, U, U, U, U, U, U, U, U, U, U, U, U, U, U, U, U, U, U, U, U, U, U, U, U, U, U, U, U, U, U, U, U, U, U, U, U, U, U, U, U, U, U, U, U, U], [(.blk 10 [(c_GEdit a2638)])]⟩) = some ((.exit 0), ⟨[U, U, (.ptr 0 1 0 0), U, U, bf, bf, bf, bf, bf, bf, bf, U, U, U, U, U, U, U, U, U, U, U, U, U, U, U, U, U, U, U, U, U, U, U, U, U, U, U, U, U, U, U, U, U, U, U, U, U, U, U, U, U, U, U, U, U, U, U, U, U, U, U, U, U, U, U, U, U, U, U, U, U, U, U, U, U, U, U, U, U, U, U, U, U, U, U, U, U, U, U, U, U, U, U], [(.blk 10 [(c_GEdit a2638)])]⟩) := by rw [q2641]; kernel_rfl
  rcases cnd_or h with ⟨h2644, h⟩ | ⟨h2644, h⟩
  rotate_left
  ·have g2666 := c_GPoint_neq (cf := evF PP T n) (fl := 0) (H := [(.blk 10 [(c_GEdit a2638)])]) (a := a2638.At) (b := (GPoint.mk 0 0)) h2644
   obtain rfl := si h
   exact pv_z (F := F36) ⟨[tt 42], []⟩ [((.exit 0), ⟨[U, U, (.ptr 0 1 0 0), U, U, bf, bf, bf, bf, bf, bf, bf, U, U, U, U, U, U, U, U, U, U, U, U, U, U, U, U, U, U, U, U, U, U, U, U, U, U, U, U, U, U, U, U, U, U, U, U, U, U, U, U, U, U, U, U, U, U, U, U, U, U, U, U, U, U, U, U, U, U, U, U, U, U, U, U, U, U, U, U, U, U, U, U, U, U, U, U, U, U, U, U, U, U, U], [(.blk 10 [(c_GEdit a2638)])]⟩)] [] rfl (W2 g2666 g2643 <| Z g2642 Z0) (by kernel_rfl)
  have g2645 := c_GPoint_neq (cf := evF PP T n) (fl := 0) (H := [(.blk 10 [(c_GEdit a2638)])]) (a := a2638.At) (b := (GPoint.mk 0 0)) h2644
  rcases cnd_or h with ⟨h2646, h⟩ | ⟨h2646, h⟩
  ·have g2647 := bool_eq h2646
   obtain rfl := si h
   exact pv_z (F := F36) ⟨[ff 42, tt 50], []⟩ [((.exit 0), ⟨[U, U, (.ptr 0 1 0 0), U, U, bf, bf, bf, bf, bf, bf, bf, U, U, U, U, U, U, U, U, U, U, U, U, U, U, U, U, U, U, U, U, U, U, U, U, U, U, U, U, U, U, U, U, U, U, U, U, U, U, U, U, U, U, U, U, U, U, U, U, U, U, U, U, U, U, U, U, U, U, U, U, U, U, U, U, U, U, U, U, U, U, U, U, U, U, U, U, U, U, U, U, U, U, U], [(.blk 10 [(c_GEdit a2638)])]⟩)] [] rfl (W4 g2647 g2645 g2643 g2642 Z0) (by kernel_rfl)
  have g2648 := bool_eq h2646
  rcases cnd_or h with ⟨h2649, h⟩ | ⟨h2649, h⟩
  ·have g2650 := bool_eq h2649
   obtain rfl := si h
   exact pv_z (F := F36) ⟨[ff 42, ff 50, tt 59], []⟩ [((.exit 0), ⟨[U, U, (.ptr 0 1 0 0), U, U, bf, bf, bf, bf, bf, bf, bf, U, U, U, U, U, U, U, U, U, U, U, U, U, U, U, U, U, U, U, U, U, U, U, U, U, U, U, U, U, U, U, U, U, U, U, U, U, U, U, U, U, U, U, U, U, U, U, U, U, U, U, U, U, U, U, U, U, U, U, U, U, U, U, U, U, U, U, U, U, U, U, U, U, U, U, U, U, U, U, U, U, U, U], [(.blk 10 [(c_GEdit a2638)])]⟩)] [] rfl (W4 g2650 g2648 g2645 g2643 <| Z g2642 Z0) (by kernel_rfl)
  have g2651 := bool_eq h2649
  rcases cnd_or h with ⟨h2652, h⟩ | ⟨h2652, h⟩
  ·have g2653 := bool_eq h2652
   obtain rfl := si h
   exact pv_z (F := F36) ⟨[ff 42, ff 50, ff 59, tt 68], []⟩ [((.exit 0), ⟨[U, U, (.ptr 0 1 0 0), U, U, bf, bf, bf, bf, bf, bf, bf, U, U, U, U, U, U, U, U, U, U, U, U, U, U, U, U, U, U, U, U, U, U, U, U, U, U, U, U, U, U, U, U, U, U, U, U, U, U, U, U, U, U, U, U, U, U, U, U, U, U, U, U, U, U, U, U, U, U, U, U, U, U, U, U, U, U, U, U, U, U, U, U, U, U, U, U, U, U, U, U, U, U, U], [(.blk 10 [(c_GEdit a2638)])]⟩)] [] rfl (W4 g2653 g2651 g2648 g2645 <| W2 g2643 g2642 Z0) (by kernel_rfl)
  have g2654 := bool_eq h2652
  have g2655 := len_sl (P := PP) (cf := evF PP T n) (fl := 0) (H := [(.blk 10 [(c_GEdit a2638)])]) (f := false) (c := c_GPoint) (l := a2638.Via)
  rcases cnd_or h with ⟨h2656, h⟩ | ⟨h2656, h⟩
  rotate_left
  ·have g2665 := bool_eq h2656
   obtain rfl := si h
   exact pv_z (F := F36) ⟨[ff 42, ff 50, ff 59, ff 68, (75, (iv ((a2638.Via.length : Nat) : Int)), none), ff 76], []⟩ [((.exit 0), ⟨[U, U, (.ptr 0 1 0 0), U, U, bf, bf, bf, bf, bf, bf, bf, U, U, U, U, U, U, U, U, U, U, U, U, U, U, U, U, U, U, U, U, U, U, U, U, U, U, U, U, U, U, U, U, U, U, U, U, U, U, U, U, U, U, U, U, U, U, U, U, U, U, U, U, U, U, U, U, U, U, U, U, U, U, U, U, U, U, U, U, U, U, U, U, U, U, U, U, U, U, U, U, U, U, U], [(.blk 10 [(c_GEdit a2638)])]⟩)] [] rfl (W8 g2665 g2655 g2654 g2651 g2648 g2645 g2643 g2642 Z0) (by kernel_rfl)
  have g2657 := bool_eq h2656
  rcases cnd_or h with ⟨h2658, h⟩ | ⟨h2658, h⟩
  rotate_left
  ·have g2664 := c_str_eql (P := PP) (cf := evF PP T n) (fl := 0) (H := [(.blk 10 [(c_GEdit a2638)])]) (t := 9) h2658
   obtain rfl := si h
   exact pv_z (F := F36) ⟨[ff 42, ff 50, ff 59, ff 68, (75, (iv ((a2638.Via.length : Nat) : Int)), none), tt 76, ff 83], []⟩ [((.exit 0), ⟨[U, U, (.ptr 0 1 0 0), U, U, bf, bf, bf, bf, bf, bf, bf, U, U, U, U, U, U, U, U, U, U, U, U, U, U, U, U, U, U, U, U, U, U, U, U, U, U, U, U, U, U, U, U, U, U, U, U, U, U, U, U, U, U, U, U, U, U, U, U, U, U, U, U, U, U, U, U, U, U, U, U, U, U, U, U, U, U, U, U, U, U, U, U, U, U, U, U, U, U, U, U, U, U, U], [(.blk 10 [(c_GEdit a2638)])]⟩)] [] rfl (W8 g2664 g2657 g2655 g2654 g2651 g2648 g2645 g2643 <| Z g2642 Z0) (by kernel_rfl)
  have g2659 := c_str_eql (P := PP) (cf := evF PP T n) (fl := 0) (H := [(.blk 10 [(c_GEdit a2638)])]) (t := 9) h2658
  have g2660 := len_sl (P := PP) (cf := evF PP T n) (fl := 0) (H := [(.blk 10 [(c_GEdit a2638)])]) (f := false) (c := c_i64) (l := a2638.Parts)
  rcases cnd_or h with ⟨h2661, h⟩ | ⟨h2661, h⟩
  ·have g2662 := bool_eq h2661
   obtain rfl := si h
   exact pv_z (F := F36) ⟨[ff 42, ff 50, ff 59, ff 68, (75, (iv ((a2638.Via.length : Nat) : Int)), none), tt 76, tt 83, (91, (iv ((a2638.Parts.length : Nat) : Int)), none), tt 92], []⟩ [((.exit 0), ⟨[U, U, (.ptr 0 1 0 0), U, U, bf, bf, bf, bf, bf, bf, bf, U, U, U, U, U, U, U, U, U, U, U, U, U, U, U, U, U, U, U, U, U, U, U, U, U, U, U, U, U, U, U, U, U, U, U, U, U, U, U, U, U, U, U, U, U, U, U, U, U, U, U, U, U, U, U, U, U, U, U, U, U, U, U, U, U, U, U, U, U, U, U, U, U, U, U, U, U, U, U, U, U, U, U], [(.blk 10 [(c_GEdit a2638)])]⟩)] [] rfl (W8 g2662 g2660 g2659 g2657 g2655 g2654 g2651 g2648 <| W2 g2645 g2643 <| Z g2642 Z0) (by kernel_rfl)
  have g2663 := bool_eq h2661
  obtain rfl := si h
  exact pv_z (F := F36) ⟨[ff 42, ff 50, ff 59, ff 68, (75, (iv ((a2638.Via.length : Nat) : Int)), none), tt 76, tt 83, (91, (iv ((a2638.Parts.length : Nat) : Int)), none), ff 92], []⟩ [((.exit 0), ⟨[U, U, (.ptr 0 1 0 0), U, U, bf, bf, bf, bf, bf, bf, bf, U, U, U, U, U, U, U, U, U, U, U, U, U, U, U, U, U, U, U, U, U, U, U, U, U, U, U, U, U, U, U, U, U, U, U, U, U, U, U, U, U, U, U, U, U, U, U, U, U, U, U, U, U, U, U, U, U, U, U, U, U, U, U, U, U, U, U, U, U, U, U, U, U, U, U, U, U, U, U, U, U, U, U], [(.blk 10 [(c_GEdit a2638)])]⟩)] [] rfl (W8 g2663 g2660 g2659 g2657 g2655 g2654 g2651 g2648 <| W2 g2645 g2643 <| Z g2642 Z0) (by kernel_rfl)
def f36_1 : Nat → GEdit → Option Bool
 | 0, _ => none
 | n + 1, a2667 => (bnd (prdk 2 n) fun n2668 => (cnd (a2667.A != 0) (some false) (cnd (a2667.B != 0) (some false) (cnd (a2667.C != 0) (some false) (cnd (((a2667.Via.length : Nat) : Int) == 0) (cnd (decide (a2667.Name = (⟨#[]⟩ : ByteArray))) (cnd (((a2667.Parts.length : Nat) : Int) == 0) (some true) (some false)) (some false)) (some false))))))
theorem f36_1_ok (n : Nat) (a2667 : GEdit) (r : Bool) (h : f36_1 n a2667 = some r) : pv PP T n 36 [(.agg (c_GEdit a2667)), (sv (⟨#[116]⟩))] = some (bv r) := by
 cases n with
 | zero => cases h
 | succ n =>
  rw [f36_1] at h
  obtain ⟨n2668, e2669, h⟩ := bnd_some h
  have q2670 := prdk_eq e2669
  have g2671 : cleanQ false 0 1 [(.blk 10 [(c_GEdit a2667)])] := trivial
  have g2672 : maskR [false, false, true, false, false, true, true, true, true, true, true, true] [false, false, false, false, true] false 0 1 (evLoopH (headSt (some [false, true, true, false, false, true, true, true, true, true, true, true, true]) false 0 1) (evC PP (evF PP T n) n 0 L36_0) n ⟨[U, (sv (⟨#[116]⟩)), (.ptr 0 1 0 0), U, U, bf, bf, bf, bf, bf, bf, bf, (iv 0), U, U, U, U, U, U, U, U, U, U, U, U, U, U, U, U, U, U, U, U, U, U, U, U, U, U, U, U, U, U, U, U, U, U, U, U, U, U, U, U, U, U, U, U, U, U, U, U, U, U, U, U, U, U, U, U, U, U, U, U, U, U, U, U, U, U, U, U, U, U, U, U, U, U, U, U, U, U, U, U, U, U], [(.blk 10 [(c_GEdit a2667)])]⟩) = some ((.exit 0), ⟨[U, U, (.ptr 0 1 0 0), U, U, bt, bf, bf, bf, bf, bf, bf, U, U, U, U, U, U, U, U, U, U, U, U, U, U, U, U, U, U, U, U, U, U, U, U, U, U, U, U, U, U, U, U, U, U, U, U, U, U, U, U, U, U, U, U, U, U, U, U, U, U, U, U, U, U, U, U, U, U, U, U, U, U, U, U, U, U, U, U, U, U, U, U, U, U, U, U, U, U, U, U, U, U, U], [(.blk 10 [(c_GEdit a2667)])]⟩) := by rw [q2670]; kernel_rfl
  rcases cnd_or h with ⟨h2673, h⟩ | ⟨h2673, h⟩
  ·have g2674 := bool_eq h2673
   obtain rfl := si h
   exact pv_z (F := F36) ⟨[tt 50], []⟩ [((.exit 0), ⟨[U, U, (.ptr 0 1 0 0), U, U, bt, bf, bf, bf, bf, bf, bf, U, U, U, U, U, U, U, U, U, U, U, U, U, U, U, U, U, U, U, U, U, U, U, U, U, U, U, U, U, U, U, U, U, U, U, U, U, U, U, U, U, U, U, U, U, U, U, U, U, U, U, U, U, U, U, U, U, U, U, U, U, U, U, U, U, U, U, U, U, U, U, U, U, U, U, U, U, U, U, U, U, U, U], [(.blk 10 [(c_GEdit a2667)])]⟩)] [] rfl (W2 g2674 g2672 <| Z g2671 Z0) (by kernel_rfl)
  have g2675 := bool_eq h2673
  rcases cnd_or h with ⟨h2676, h⟩ | ⟨h2676, h⟩
  ·have g2677 := bool_eq h2676
   obtain rfl := si h
   exact pv_z (F := F36) ⟨[ff 50, tt 59], []⟩ [((.exit 0), ⟨[U, U, (.ptr 0 1 0 0), U, U, bt, bf, bf, bf, bf, bf, bf, U, U, U, U, U, U, U, U, U, U, U, U, U, U, U, U, U, U, U, U, U, U, U, U, U, U, U, U, U, U, U, U, U, U, U, U, U, U, U, U, U, U, U, U, U, U, U, U, U, U, U, U, U, U, U, U, U, U, U, U, U, U, U, U, U, U, U, U, U, U, U, U, U, U, U, U, U, U, U, U, U, U, U], [(.blk 10 [(c_GEdit a2667)])]⟩)] [] rfl (W4 g2677 g2675 g2672 g2671 Z0) (by kernel_rfl)
  have g2678 := bool_eq h2676
  rcases cnd_or h with ⟨h2679, h⟩ | ⟨h2679, h⟩
  ·have g2680 := bool_eq h2679
   obtain rfl := si h
   exact pv_z (F := F36) ⟨[ff 50, ff 59, tt 68], []⟩ [((.exit 0), ⟨[U, U, (.ptr 0 1 0 0), U, U, bt, bf, bf, bf, bf, bf, bf, U, U, U, U, U, U, U, U, U, U, U, U, U, U, U, U, U, U, U, U, U, U, U, U, U, U, U, U, U, U, U, U, U, U, U, U, U, U, U, U, U, U, U, U, U, U, U, U, U, U, U, U, U, U, U, U, U, U, U, U, U, U, U, U, U, U, U, U, U, U, U, U, U, U, U, U, U, U, U, U, U, U, U], [(.blk 10 [(c_GEdit a2667)])]⟩)] [] rfl (W4 g2680 g2678 g2675 g2672 <| Z g2671 Z0) (by kernel_rfl)
  have g2681 := bool_eq h2679
  have g2682 := len_sl (P := PP) (cf := evF PP T n) (fl := 0) (H := [(.blk 10 [(c_GEdit a2667)])]) (f := false) (c := c_GPoint) (l := a2667.Via)
  rcases cnd_or h with ⟨h2683, h⟩ | ⟨h2683, h⟩
  rotate_left
  ·have g2692 := bool_eq h2683
   obtain rfl := si h
   exact pv_z (F := F36) ⟨[ff 50, ff 59, ff 68, (75, (iv ((a2667.Via.length : Nat) : Int)), none), ff 76], []⟩ [((.exit 0), ⟨[U, U, (.ptr 0 1 0 0), U, U, bt, bf, bf, bf, bf, bf, bf, U, U, U, U, U, U, U, U, U, U, U, U, U, U, U, U, U, U, U, U, U, U, U, U, U, U, U, U, U, U, U, U, U, U, U, U, U, U, U, U, U, U, U, U, U, U, U, U, U, U, U, U, U, U, U, U, U, U, U, U, U, U, U, U, U, U, U, U, U, U, U, U, U, U, U, U, U, U, U, U, U, U, U], [(.blk 10 [(c_GEdit a2667)])]⟩)] [] rfl (W4 g2692 g2682 g2681 g2678 <| W2 g2675 g2672 <| Z g2671 Z0) (by kernel_rfl)
  have g2684 := bool_eq h2683
  rcases cnd_or h with ⟨h2685, h⟩ | ⟨h2685, h⟩
  rotate_left
  ·have g2691 := c_str_eql (P := PP) (cf := evF PP T n) (fl := 0) (H := [(.blk 10 [(c_GEdit a2667)])]) (t := 9) h2685
   obtain rfl := si h
   exact pv_z (F := F36) ⟨[ff 50, ff 59, ff 68, (75, (iv ((a2667.Via.length : Nat) : Int)), none), tt 76, ff 83], []⟩ [((.exit 0), ⟨[U, U, (.ptr 0 1 0 0), U, U, bt, bf, bf, bf, bf, bf, bf, U, U, U, U, U, U, U, U, U, U, U, U, U, U, U, U, U, U, U, U, U, U, U, U, U, U, U, U, U, U, U, U, U, U, U, U, U, U, U, U, U, U, U, U, U, U, U, U, U, U, U, U, U, U, U, U, U, U, U, U, U, U, U, U, U, U, U, U, U, U, U, U, U, U, U, U, U, U, U, U, U, U, U], [(.blk 10 [(c_GEdit a2667)])]⟩)] [] rfl (W8 g2691 g2684 g2682 g2681 g2678 g2675 g2672 g2671 Z0) (by kernel_rfl)
  have g2686 := c_str_eql (P := PP) (cf := evF PP T n) (fl := 0) (H := [(.blk 10 [(c_GEdit a2667)])]) (t := 9) h2685
  have g2687 := len_sl (P := PP) (cf := evF PP T n) (fl := 0) (H := [(.blk 10 [(c_GEdit a2667)])]) (f := false) (c := c_i64) (l := a2667.Parts)
  rcases cnd_or h with ⟨h2688, h⟩ | ⟨h2688, h⟩
  ·have g2689 := bool_eq h2688
   obtain rfl := si h
   exact pv_z (F := F36) ⟨[ff 50, ff 59, ff 68, (75, (iv ((a2667.Via.length : Nat) : Int)), none), tt 76, tt 83, (91, (iv ((a2667.Parts.length : Nat) : Int)), none), tt 92], []⟩ [((.exit 0), ⟨[U, U, (.ptr 0 1 0 0), U, U, bt, bf, bf, bf, bf, bf, bf, U, U, U, U, U, U, U, U, U, U, U, U, U, U, U, U, U, U, U, U, U, U, U, U, U, U, U, U, U, U, U, U, U, U, U, U, U, U, U, U, U, U, U, U, U, U, U, U, U, U, U, U, U, U, U, U, U, U, U, U, U, U, U, U, U, U, U, U, U, U, U, U, U, U, U, U, U, U, U, U, U, U, U], [(.blk 10 [(c_GEdit a2667)])]⟩)] [] rfl (W8 g2689 g2687 g2686 g2684 g2682 g2681 g2678 g2675 <| W2 g2672 g2671 Z0) (by kernel_rfl)
  have g2690 := bool_eq h2688
  obtain rfl := si h
  exact pv_z (F := F36) ⟨[ff 50, ff 59, ff 68, (75, (iv ((a2667.Via.length : Nat) : Int)), none), tt 76, tt 83, (91, (iv ((a2667.Parts.length : Nat) : Int)), none), ff 92], []⟩ [((.exit 0), ⟨[U, U, (.ptr 0 1 0 0), U, U, bt, bf, bf, bf, bf, bf, bf, U, U, U, U, U, U, U, U, U, U, U, U, U, U, U, U, U, U, U, U, U, U, U, U, U, U, U, U, U, U, U, U, U, U, U, U, U, U, U, U, U, U, U, U, U, U, U, U, U, U, U, U, U, U, U, U, U, U, U, U, U, U, U, U, U, U, U, U, U, U, U, U, U, U, U, U, U, U, U, U, U, U, U], [(.blk 10 [(c_GEdit a2667)])]⟩)] [] rfl (W8 g2690 g2687 g2686 g2684 g2682 g2681 g2678 g2675 <| W2 g2672 g2671 Z0) (by kernel_rfl)
def f36_2 : Nat → GEdit → Option Bool
 | 0, _ => none
 | n + 1, a2693 => (bnd (prdk 5 n) fun n2694 => (cnd (decide (a2693.At = (GPoint.mk 0 0))) (cnd (decide (a2693.Name = (⟨#[]⟩ : ByteArray))) (cnd (((a2693.Parts.length : Nat) : Int) == 0) (some true) (some false)) (some false)) (some false)))
theorem f36_2_ok (n : Nat) (a2693 : GEdit) (r : Bool) (h : f36_2 n a2693 = some r) : pv PP T n 36 [(.agg (c_GEdit a2693)), (sv (⟨#[97, 98, 99, 118]⟩))] = some (bv r) := by
 cases n with
 | zero => cases h
 | succ n =>
  rw [f36_2] at h
  obtain ⟨n2694, e2695, h⟩ := bnd_some h
  have q2696 := prdk_eq e2695
  have g2697 : cleanQ false 0 1 [(.blk 10 [(c_GEdit a2693)])] := trivial
  have g2698 : maskR [false, false, true, false, false, true, true, true, true, true, true, true] [false, false, false, false, true] false 0 1 (evLoopH (headSt (some [false, true, true, false, false, true, true, true, true, true, true, true, true]) false 0 1) (evC PP (evF PP T n) n 0 L36_0) n ⟨[U, (sv (⟨#[97, 98, 99, 118]⟩)), (.ptr 0 1 0 0), U, U, bf, bf, bf, bf, bf, bf, bf, (iv 0), U, U, U, U, U, U, U, U, U, U, U, U, U, U, U, U, U, U, U, U, U, U, U, U, U, U, U, U, U, U, U, U, U, U, U, U, U, U, U, U, U, U, U, U, U, U, U, U, U, U, U, U, U, U, U, U, U, U, U, U, U, U, U, U, U, U, U, U, U, U, U, U, U, U, U, U, U, U, U, U, U, U], [(.blk 10 [(c_GEdit a2693)])]⟩) = some ((.exit 0), ⟨[U, U, (.ptr 0 1 0 0), U, U, bf, bt, bt, bt, bt, bf, bf, U, U, U, U, U, U, U, U, U, U, U, U, U, U, U, U, U, U, U, U, U, U, U, U, U, U, U, U, U, U, U, U, U, U, U, U, U, U, U, U, U, U, U, U, U, U, U, U, U, U, U, U, U, U, U, U, U, U, U, U, U, U, U, U, U, U, U, U, U, U, U, U, U, U, U, U, U, U, U, U, U, U, U], [(.blk 10 [(c_GEdit a2693)])]⟩) := by rw [q2696]; kernel_rfl
  rcases cnd_or h with ⟨h2699, h⟩ | ⟨h2699, h⟩
  rotate_left
  ·have g2708 := c_GPoint_neq (cf := evF PP T n) (fl := 0) (H := [(.blk 10 [(c_GEdit a2693)])]) (a := a2693.At) (b := (GPoint.mk 0 0)) h2699
   obtain rfl := si h
   exact pv_z (F := F36) ⟨[tt 42], []⟩ [((.exit 0), ⟨[U, U, (.ptr 0 1 0 0), U, U, bf, bt, bt, bt, bt, bf, bf, U, U, U, U, U, U, U, U, U, U, U, U, U, U, U, U, U, U, U, U, U, U, U, U, U, U, U, U, U, U, U, U, U, U, U, U, U, U, U, U, U, U, U, U, U, U, U, U, U, U, U, U, U, U, U, U, U, U, U, U, U, U, U, U, U, U, U, U, U, U, U, U, U, U, U, U, U, U, U, U, U, U, U], [(.blk 10 [(c_GEdit a2693)])]⟩)] [] rfl (W2 g2708 g2698 <| Z g2697 Z0) (by kernel_rfl)
  have g2700 := c_GPoint_neq (cf := evF PP T n) (fl := 0) (H := [(.blk 10 [(c_GEdit a2693)])]) (a := a2693.At) (b := (GPoint.mk 0 0)) h2699
  rcases cnd_or h with ⟨h2701, h⟩ | ⟨h2701, h⟩
  rotate_left
  ·have g2707 := c_str_eql (P := PP) (cf := evF PP T n) (fl := 0) (H := [(.blk 10 [(c_GEdit a2693)])]) (t := 9) h2701
   obtain rfl := si h
   exact pv_z (F := F36) ⟨[ff 42, ff 83], []⟩ [((.exit 0), ⟨[U, U, (.ptr 0 1 0 0), U, U, bf, bt, bt, bt, bt, bf, bf, U, U, U, U, U, U, U, U, U, U, U, U, U, U, U, U, U, U, U, U, U, U, U, U, U, U, U, U, U, U, U, U, U, U, U, U, U, U, U, U, U, U, U, U, U, U, U, U, U, U, U, U, U, U, U, U, U, U, U, U, U, U, U, U, U, U, U, U, U, U, U, U, U, U, U, U, U, U, U, U, U, U, U], [(.blk 10 [(c_GEdit a2693)])]⟩)] [] rfl (W4 g2707 g2700 g2698 g2697 Z0) (by kernel_rfl)
  have g2702 := c_str_eql (P := PP) (cf := evF PP T n) (fl := 0) (H := [(.blk 10 [(c_GEdit a2693)])]) (t := 9) h2701
  have g2703 := len_sl (P := PP) (cf := evF PP T n) (fl := 0) (H := [(.blk 10 [(c_GEdit a2693)])]) (f := false) (c := c_i64) (l := a2693.Parts)
  rcases cnd_or h with ⟨h2704, h⟩ | ⟨h2704, h⟩
  ·have g2705 := bool_eq h2704
   obtain rfl := si h
   exact pv_z (F := F36) ⟨[ff 42, tt 83, (91, (iv ((a2693.Parts.length : Nat) : Int)), none), tt 92], []⟩ [((.exit 0), ⟨[U, U, (.ptr 0 1 0 0), U, U, bf, bt, bt, bt, bt, bf, bf, U, U, U, U, U, U, U, U, U, U, U, U, U, U, U, U, U, U, U, U, U, U, U, U, U, U, U, U, U, U, U, U, U, U, U, U, U, U, U, U, U, U, U, U, U, U, U, U, U, U, U, U, U, U, U, U, U, U, U, U, U, U, U, U, U, U, U, U, U, U, U, U, U, U, U, U, U, U, U, U, U, U, U], [(.blk 10 [(c_GEdit a2693)])]⟩)] [] rfl (W4 g2705 g2703 g2702 g2700 <| W2 g2698 g2697 Z0) (by kernel_rfl)
  have g2706 := bool_eq h2704
  obtain rfl := si h
  exact pv_z (F := F36) ⟨[ff 42, tt 83, (91, (iv ((a2693.Parts.length : Nat) : Int)), none), ff 92], []⟩ [((.exit 0), ⟨[U, U, (.ptr 0 1 0 0), U, U, bf, bt, bt, bt, bt, bf, bf, U, U, U, U, U, U, U, U, U, U, U, U, U, U, U, U, U, U, U, U, U, U, U, U, U, U, U, U, U, U, U, U, U, U, U, U, U, U, U, U, U, U, U, U, U, U, U, U, U, U, U, U, U, U, U, U, U, U, U, U, U, U, U, U, U, U, U, U, U, U, U, U, U, U, U, U, U, U, U, U, U, U, U], [(.blk 10 [(c_GEdit a2693)])]⟩)] [] rfl (W4 g2706 g2703 g2702 g2700 <| W2 g2698 g2697 Z0) (by kernel_rfl)
def f36_3 : Nat → GEdit → Option Bool
 | 0, _ => none
 | n + 1, a2709 => (bnd (prdk 2 n) fun n2710 => (cnd (decide (a2709.At = (GPoint.mk 0 0))) (cnd (a2709.A != 0) (some false) (cnd (a2709.B != 0) (some false) (cnd (a2709.C != 0) (some false) (cnd (decide (a2709.Name = (⟨#[]⟩ : ByteArray))) (cnd (((a2709.Parts.length : Nat) : Int) == 0) (some true) (some false)) (some false))))) (some false)))
theorem f36_3_ok (n : Nat) (a2709 : GEdit) (r : Bool) (h : f36_3 n a2709 = some r) : pv PP T n 36 [(.agg (c_GEdit a2709)), (sv (⟨#[118]⟩))] = some (bv r) := by
 cases n with
 | zero => cases h
 | succ n =>
  rw [f36_3] at h
  obtain ⟨n2710, e2711, h⟩ := bnd_some h
  have q2712 := prdk_eq e2711
  have g2713 : cleanQ false 0 1 [(.blk 10 [(c_GEdit a2709)])] := trivial
  have g2714 : maskR [false, false, true, false, false, true, true, true, true, true, true, true] [false, false, false, false, true] false 0 1 (evLoopH (headSt (some [false, true, true, false, false, true, true, true, true, true, true, true, true]) false 0 1) (evC PP (evF PP T n) n 0 L36_0) n ⟨[U, (sv (⟨#[118]⟩)), (.ptr 0 1 0 0), U, U, bf, bf, bf, bf, bf, bf, bf, (iv 0), U, U, U, U, U, U, U, U, U, U, U, U, U, U, U, U, U, U, U, U, U, U, U, U, U, U, U, U, U, U, U, U, U, U, U, U, U, U, U, U, U, U, U, U, U, U, U, U, U, U, U, U, U, U, U, U, U, U, U, U, U, U, U, U, U, U, U, U, U, U, U, U, U, U, U, U, U, U, U, U, U, U], [(.blk 10 [(c_GEdit a2709)])]⟩) = some ((.exit 0), ⟨[U, U, (.ptr 0 1 0 0), U, U, bf, bf, bf, bf, bt, bf, bf, U, U, U, U, U, U, U, U, U, U, U, U, U, U, U, U, U, U, U, U, U, U, U, U, U, U, U, U, U, U, U, U, U, U, U, U, U, U, U, U, U, U, U, U, U, U, U, U, U, U, U, U, U, U, U, U, U, U, U, U, U, U, U, U, U, U, U, U, U, U, U, U, U, U, U, U, U, U, U, U, U, U, U], [(.blk 10 [(c_GEdit a2709)])]⟩) := by rw [q2712]; kernel_rfl
  rcases cnd_or h with ⟨h2715, h⟩ | ⟨h2715, h⟩
  rotate_left
  ·have g2733 := c_GPoint_neq (cf := evF PP T n) (fl := 0) (H := [(.blk 10 [(c_GEdit a2709)])]) (a := a2709.At) (b := (GPoint.mk 0 0)) h2715
   obtain rfl := si h
   exact pv_z (F := F36) ⟨[tt 42], []⟩ [((.exit 0), ⟨[U, U, (.ptr 0 1 0 0), U, U, bf, bf, bf, bf, bt, bf, bf, U, U, U, U, U, U, U, U, U, U, U, U, U, U, U, U, U, U, U, U, U, U, U, U, U, U, U, U, U, U, U, U, U, U, U, U, U, U, U, U, U, U, U, U, U, U, U, U, U, U, U, U, U, U, U, U, U, U, U, U, U, U, U, U, U, U, U, U, U, U, U, U, U, U, U, U, U, U, U, U, U, U, U], [(.blk 10 [(c_GEdit a2709)])]⟩)] [] rfl (W2 g2733 g2714 <| Z g2713 Z0) (by kernel_rfl)
  have g2716 := c_GPoint_neq (cf := evF PP T n) (fl := 0) (H := [(.blk 10 [(c_GEdit a2709)])]) (a := a2709.At) (b := (GPoint.mk 0 0)) h2715
  rcases cnd_or h with ⟨h2717, h⟩ | ⟨h2717, h⟩
  ·have g2718 := bool_eq h2717
   obtain rfl := si h
   exact pv_z (F := F36) ⟨[ff 42, tt 50], []⟩ [((.exit 0), ⟨[U, U, (.ptr 0 1 0 0), U, U, bf, bf, bf, bf, bt, bf, bf, U, U, U, U, U, U, U, U, U, U, U, U, U, U, U, U, U, U, U, U, U, U, U, U, U, U, U, U, U, U, U, U, U, U, U, U, U, U, U, U, U, U, U, U, U, U, U, U, U, U, U, U, U, U, U, U, U, U, U, U, U, U, U, U, U, U, U, U, U, U, U, U, U, U, U, U, U, U, U, U, U, U, U], [(.blk 10 [(c_GEdit a2709)])]⟩)] [] rfl (W4 g2718 g2716 g2714 g2713 Z0) (by kernel_rfl)
  have g2719 := bool_eq h2717
  rcases cnd_or h with ⟨h2720, h⟩ | ⟨h2720, h⟩
  ·have g2721 := bool_eq h2720
   obtain rfl := si h
   exact pv_z (F := F36) ⟨[ff 42, ff 50, tt 59], []⟩ [((.exit 0), ⟨[U, U, (.ptr 0 1 0 0), U, U, bf, bf, bf, bf, bt, bf, bf, U, U, U, U, U, U, U, U, U, U, U, U, U, U, U, U, U, U, U, U, U, U, U, U, U, U, U, U, U, U, U, U, U, U, U, U, U, U, U, U, U, U, U, U, U, U, U, U, U, U, U, U, U, U, U, U, U, U, U, U, U, U, U, U, U, U, U, U, U, U, U, U, U, U, U, U, U, U, U, U, U, U, U], [(.blk 10 [(c_GEdit a2709)])]⟩)] [] rfl (W4 g2721 g2719 g2716 g2714 <| Z g2713 Z0) (by kernel_rfl)
  have g2722 := bool_eq h2720
  rcases cnd_or h with ⟨h2723, h⟩ | ⟨h2723, h⟩
  ·have g2724 := bool_eq h2723
   obtain rfl := si h
   exact pv_z (F := F36) ⟨[ff 42, ff 50, ff 59, tt 68], []⟩ [((.exit 0), ⟨[U, U, (.ptr 0 1 0 0), U, U, bf, bf, bf, bf, bt, bf, bf, U, U, U, U, U, U, U, U, U, U, U, U, U, U, U, U, U, U, U, U, U, U, U, U, U, U, U, U, U, U, U, U, U, U, U, U, U, U, U, U, U, U, U, U, U, U, U, U, U, U, U, U, U, U, U, U, U, U, U, U, U, U, U, U, U, U, U, U, U, U, U, U, U, U, U, U, U, U, U, U, U, U, U], [(.blk 10 [(c_GEdit a2709)])]⟩)] [] rfl (W4 g2724 g2722 g2719 g2716 <| W2 g2714 g2713 Z0) (by kernel_rfl)
  have g2725 := bool_eq h2723
  rcases cnd_or h with ⟨h2726, h⟩ | ⟨h2726, h⟩
  rotate_left
  ·have g2732 := c_str_eql (P := PP) (cf := evF PP T n) (fl := 0) (H := [(.blk 10 [(c_GEdit a2709)])]) (t := 9) h2726
   obtain rfl := si h
   exact pv_z (F := F36) ⟨[ff 42, ff 50, ff 59, ff 68, ff 83], []⟩ [((.exit 0), ⟨[U, U, (.ptr 0 1 0 0), U, U, bf, bf, bf, bf, bt, bf, bf, U, U, U, U, U, U, U, U, U, U, U, U, U, U, U, U, U, U, U, U, U, U, U, U, U, U, U, U, U, U, U, U, U, U, U, U, U, U, U, U, U, U, U, U, U, U, U, U, U, U, U, U, U, U, U, U, U, U, U, U, U, U, U, U, U, U, U, U, U, U, U, U, U, U, U, U, U, U, U, U, U, U, U], [(.blk 10 [(c_GEdit a2709)])]⟩)] [] rfl (W4 g2732 g2725 g2722 g2719 <| W2 g2716 g2714 <| Z g2713 Z0) (by kernel_rfl)
  have g2727 := c_str_eql (P := PP) (cf := evF PP T n) (fl := 0) (H := [(.blk 10 [(c_GEdit a2709)])]) (t := 9) h2726
  have g2728 := len_sl (P := PP) (cf := evF PP T n) (fl := 0) (H := [(.blk 10 [(c_GEdit a2709)])]) (f := false) (c := c_i64) (l := a2709.Parts)
  rcases cnd_or h with ⟨h2729, h⟩ | ⟨h2729, h⟩
  ·have g2730 := bool_eq h2729
   obtain rfl := si h
   exact pv_z (F := F36) ⟨[ff 42, ff 50, ff 59, ff 68, tt 83, (91, (iv ((a2709.Parts.length : Nat) : Int)), none), tt 92], []⟩ [((.exit 0), ⟨[U, U, (.ptr 0 1 0 0), U, U, bf, bf, bf, bf, bt, bf, bf, U, U, U, U, U, U, U, U, U, U, U, U, U, U, U, U, U, U, U, U, U, U, U, U, U, U, U, U, U, U, U, U, U, U, U, U, U, U, U, U, U, U, U, U, U, U, U, U, U, U, U, U, U, U, U, U, U, U, U, U, U, U, U, U, U, U, U, U, U, U, U, U, U, U, U, U, U, U, U, U, U, U, U], [(.blk 10 [(c_GEdit a2709)])]⟩)] [] rfl (W8 g2730 g2728 g2727 g2725 g2722 g2719 g2716 g2714 <| Z g2713 Z0) (by kernel_rfl)
  have g2731 := bool_eq h2729
  obtain rfl := si h
  exact pv_z (F := F36) ⟨[ff 42, ff 50, ff 59, ff 68, tt 83, (91, (iv ((a2709.Parts.length : Nat) : Int)), none), ff 92], []⟩ [((.exit 0), ⟨[U, U, (.ptr 0 1 0 0), U, U, bf, bf, bf, bf, bt, bf, bf, U, U, U, U, U, U, U, U, U, U, U, U, U, U, U, U, U, U, U, U, U, U, U, U, U, U, U, U, U, U, U, U, U, U, U, U, U, U, U, U, U, U, U, U, U, U, U, U, U, U, U, U, U, U, U, U, U, U, U, U, U, U, U, U, U, U, U, U, U, U, U, U, U, U, U, U, U, U, U, U, U, U, U], [(.blk 10 [(c_GEdit a2709)])]⟩)] [] rfl (W8 g2731 g2728 g2727 g2725 g2722 g2719 g2716 g2714 <| Z g2713 Z0) (by kernel_rfl)
def f36_4 : Nat → GEdit → Option Bool
 | 0, _ => none
 | n + 1, a2734 => (bnd (prdk 5 n) fun n2735 => (cnd (decide (a2734.At = (GPoint.mk 0 0))) (cnd (a2734.C != 0) (some false) (cnd (((a2734.Via.length : Nat) : Int) == 0) (some true) (some false))) (some false)))
theorem f36_4_ok (n : Nat) (a2734 : GEdit) (r : Bool) (h : f36_4 n a2734 = some r) : pv PP T n 36 [(.agg (c_GEdit a2734)), (sv (⟨#[97, 98, 110, 112]⟩))] = some (bv r) := by
 cases n with
 | zero => cases h
 | succ n =>
  rw [f36_4] at h
  obtain ⟨n2735, e2736, h⟩ := bnd_some h
  have q2737 := prdk_eq e2736
  have g2738 : cleanQ false 0 1 [(.blk 10 [(c_GEdit a2734)])] := trivial
  have g2739 : maskR [false, false, true, false, false, true, true, true, true, true, true, true] [false, false, false, false, true] false 0 1 (evLoopH (headSt (some [false, true, true, false, false, true, true, true, true, true, true, true, true]) false 0 1) (evC PP (evF PP T n) n 0 L36_0) n ⟨[U, (sv (⟨#[97, 98, 110, 112]⟩)), (.ptr 0 1 0 0), U, U, bf, bf, bf, bf, bf, bf, bf, (iv 0), U, U, U, U, U, U, U, U, U, U, U, U, U, U, U, U, U, U, U, U, U, U, U, U, U, U, U, U, U, U, U, U, U, U, U, U, U, U, U, U, U, U, U, U, U, U, U, U, U, U, U, U, U, U, U, U, U, U, U, U, U, U, U, U, U, U, U, U, U, U, U, U, U, U, U, U, U, U, U, U, U, U], [(.blk 10 [(c_GEdit a2734)])]⟩) = some ((.exit 0), ⟨[U, U, (.ptr 0 1 0 0), U, U, bf, bt, bt, bf, bf, bt, bt, U, U, U, U, U, U, U, U, U, U, U, U, U, U, U, U, U, U, U, U, U, U, U, U, U, U, U, U, U, U, U, U, U, U, U, U, U, U, U, U, U, U, U, U, U, U, U, U, U, U, U, U, U, U, U, U, U, U, U, U, U, U, U, U, U, U, U, U, U, U, U, U, U, U, U, U, U, U, U, U, U, U, U], [(.blk 10 [(c_GEdit a2734)])]⟩) := by rw [q2737]; kernel_rfl
  rcases cnd_or h with ⟨h2740, h⟩ | ⟨h2740, h⟩
  rotate_left
  ·have g2749 := c_GPoint_neq (cf := evF PP T n) (fl := 0) (H := [(.blk 10 [(c_GEdit a2734)])]) (a := a2734.At) (b := (GPoint.mk 0 0)) h2740
   obtain rfl := si h
   exact pv_z (F := F36) ⟨[tt 42], []⟩ [((.exit 0), ⟨[U, U, (.ptr 0 1 0 0), U, U, bf, bt, bt, bf, bf, bt, bt, U, U, U, U, U, U, U, U, U, U, U, U, U, U, U, U, U, U, U, U, U, U, U, U, U, U, U, U, U, U, U, U, U, U, U, U, U, U, U, U, U, U, U, U, U, U, U, U, U, U, U, U, U, U, U, U, U, U, U, U, U, U, U, U, U, U, U, U, U, U, U, U, U, U, U, U, U, U, U, U, U, U, U], [(.blk 10 [(c_GEdit a2734)])]⟩)] [] rfl (W2 g2749 g2739 <| Z g2738 Z0) (by kernel_rfl)
  have g2741 := c_GPoint_neq (cf := evF PP T n) (fl := 0) (H := [(.blk 10 [(c_GEdit a2734)])]) (a := a2734.At) (b := (GPoint.mk 0 0)) h2740
  rcases cnd_or h with ⟨h2742, h⟩ | ⟨h2742, h⟩
  ·have g2743 := bool_eq h2742
   obtain rfl := si h
   exact pv_z (F := F36) ⟨[ff 42, tt 68], []⟩ [((.exit 0), ⟨[U, U, (.ptr 0 1 0 0), U, U, bf, bt, bt, bf, bf, bt, bt, U, U, U, U, U, U, U, U, U, U, U, U, U, U, U, U, U, U, U, U, U, U, U, U, U, U, U, U, U, U, U, U, U, U, U, U, U, U, U, U, U, U, U, U, U, U, U, U, U, U, U, U, U, U, U, U, U, U, U, U, U, U, U, U, U, U, U, U, U, U, U, U, U, U, U, U, U, U, U, U, U, U, U], [(.blk 10 [(c_GEdit a2734)])]⟩)] [] rfl (W4 g2743 g2741 g2739 g2738 Z0) (by kernel_rfl)
  have g2744 := bool_eq h2742
  have g2745 := len_sl (P := PP) (cf := evF PP T n) (fl := 0) (H := [(.blk 10 [(c_GEdit a2734)])]) (f := false) (c := c_GPoint) (l := a2734.Via)
  rcases cnd_or h with ⟨h2746, h⟩ | ⟨h2746, h⟩
  ·have g2747 := bool_eq h2746
   obtain rfl := si h
   exact pv_z (F := F36) ⟨[ff 42, ff 68, (75, (iv ((a2734.Via.length : Nat) : Int)), none), tt 76], []⟩ [((.exit 0), ⟨[U, U, (.ptr 0 1 0 0), U, U, bf, bt, bt, bf, bf, bt, bt, U, U, U, U, U, U, U, U, U, U, U, U, U, U, U, U, U, U, U, U, U, U, U, U, U, U, U, U, U, U, U, U, U, U, U, U, U, U, U, U, U, U, U, U, U, U, U, U, U, U, U, U, U, U, U, U, U, U, U, U, U, U, U, U, U, U, U, U, U, U, U, U, U, U, U, U, U, U, U, U, U, U, U], [(.blk 10 [(c_GEdit a2734)])]⟩)] [] rfl (W4 g2747 g2745 g2744 g2741 <| W2 g2739 g2738 Z0) (by kernel_rfl)
  have g2748 := bool_eq h2746
  obtain rfl := si h
  exact pv_z (F := F36) ⟨[ff 42, ff 68, (75, (iv ((a2734.Via.length : Nat) : Int)), none), ff 76], []⟩ [((.exit 0), ⟨[U, U, (.ptr 0 1 0 0), U, U, bf, bt, bt, bf, bf, bt, bt, U, U, U, U, U, U, U, U, U, U, U, U, U, U, U, U, U, U, U, U, U, U, U, U, U, U, U, U, U, U, U, U, U, U, U, U, U, U, U, U, U, U, U, U, U, U, U, U, U, U, U, U, U, U, U, U, U, U, U, U, U, U, U, U, U, U, U, U, U, U, U, U, U, U, U, U, U, U, U, U, U, U, U], [(.blk 10 [(c_GEdit a2734)])]⟩)] [] rfl (W4 g2748 g2745 g2744 g2741 <| W2 g2739 g2738 Z0) (by kernel_rfl)
def f36_5 : Nat → GEdit → Option Bool
 | 0, _ => none
 | n + 1, a2750 => (bnd (prdk 2 n) fun n2751 => (cnd (decide (a2750.At = (GPoint.mk 0 0))) (cnd (a2750.A != 0) (some false) (cnd (a2750.B != 0) (some false) (cnd (a2750.C != 0) (some false) (cnd (((a2750.Via.length : Nat) : Int) == 0) (cnd (((a2750.Parts.length : Nat) : Int) == 0) (some true) (some false)) (some false))))) (some false)))
theorem f36_5_ok (n : Nat) (a2750 : GEdit) (r : Bool) (h : f36_5 n a2750 = some r) : pv PP T n 36 [(.agg (c_GEdit a2750)), (sv (⟨#[110]⟩))] = some (bv r) := by
 cases n with
 | zero => cases h
 | succ n =>
  rw [f36_5] at h
  obtain ⟨n2751, e2752, h⟩ := bnd_some h
  have q2753 := prdk_eq e2752
  have g2754 : cleanQ false 0 1 [(.blk 10 [(c_GEdit a2750)])] := trivial
  have g2755 : maskR [false, false, true, false, false, true, true, true, true, true, true, true] [false, false, false, false, true] false 0 1 (evLoopH (headSt (some [false, true, true, false, false, true, true, true, true, true, true, true, true]) false 0 1) (evC PP (evF PP T n) n 0 L36_0) n ⟨[U, (sv (⟨#[110]⟩)), (.ptr 0 1 0 0), U, U, bf, bf, bf, bf, bf, bf, bf, (iv 0), U, U, U, U, U, U, U, U, U, U, U, U, U, U, U, U, U, U, U, U, U, U, U, U, U, U, U, U, U, U, U, U, U, U, U, U, U, U, U, U, U, U, U, U, U, U, U, U, U, U, U, U, U, U, U, U, U, U, U, U, U, U, U, U, U, U, U, U, U, U, U, U, U, U, U, U, U, U, U, U, U, U], [(.blk 10 [(c_GEdit a2750)])]⟩) = some ((.exit 0), ⟨[U, U, (.ptr 0 1 0 0), U, U, bf, bf, bf, bf, bf, bt, bf, U, U, U, U, U, U, U, U, U, U, U, U, U, U, U, U, U, U, U, U, U, U, U, U, U, U, U, U, U, U, U, U, U, U, U, U, U, U, U, U, U, U, U, U, U, U, U, U, U, U, U, U, U, U, U, U, U, U, U, U, U, U, U, U, U, U, U, U, U, U, U, U, U, U, U, U, U, U, U, U, U, U, U], [(.blk 10 [(c_GEdit a2750)])]⟩) := by rw [q2753]; kernel_rfl
  rcases cnd_or h with ⟨h2756, h⟩ | ⟨h2756, h⟩
  rotate_left
  ·have g2775 := c_GPoint_neq (cf := evF PP T n) (fl := 0) (H := [(.blk 10 [(c_GEdit a2750)])]) (a := a2750.At) (b := (GPoint.mk 0 0)) h2756
   obtain rfl := si h
   exact pv_z (F := F36) ⟨[tt 42], []⟩ [((.exit 0), ⟨[U, U, (.ptr 0 1 0 0), U, U, bf, bf, bf, bf, bf, bt, bf, U, U, U, U, U, U, U, U, U, U, U, U, U, U, U, U, U, U, U, U, U, U, U, U, U, U, U, U, U, U, U, U, U, U, U, U, U, U, U, U, U, U, U, U, U, U, U, U, U, U, U, U, U, U, U, U, U, U, U, U, U, U, U, U, U, U, U, U, U, U, U, U, U, U, U, U, U, U, U, U, U, U, U], [(.blk 10 [(c_GEdit a2750)])]⟩)] [] rfl (W2 g2775 g2755 <| Z g2754 Z0) (by kernel_rfl)
  have g2757 := c_GPoint_neq (cf := evF PP T n) (fl := 0) (H := [(.blk 10 [(c_GEdit a2750)])]) (a := a2750.At) (b := (GPoint.mk 0 0)) h2756
  rcases cnd_or h with ⟨h2758, h⟩ | ⟨h2758, h⟩
  ·have g2759 := bool_eq h2758
   obtain rfl := si h
   exact pv_z (F := F36) ⟨[ff 42, tt 50], []⟩ [((.exit 0), ⟨[U, U, (.ptr 0 1 0 0), U, U, bf, bf, bf, bf, bf, bt, bf, U, U, U, U, U, U, U, U, U, U, U, U, U, U, U, U, U, U, U, U, U, U, U, U, U, U, U, U, U, U, U, U, U, U, U, U, U, U, U, U, U, U, U, U, U, U, U, U, U, U, U, U, U, U, U, U, U, U, U, U, U, U, U, U, U, U, U, U, U, U, U, U, U, U, U, U, U, U, U, U, U, U, U], [(.blk 10 [(c_GEdit a2750)])]⟩)] [] rfl (W4 g2759 g2757 g2755 g2754 Z0) (by kernel_rfl)
  have g2760 := bool_eq h2758
  rcases cnd_or h with ⟨h2761, h⟩ | ⟨h2761, h⟩
  ·have g2762 := bool_eq h2761
   obtain rfl := si h
   exact pv_z (F := F36) ⟨[ff 42, ff 50, tt 59], []⟩ [((.exit 0), ⟨[U, U, (.ptr 0 1 0 0), U, U, bf, bf, bf, bf, bf, bt, bf, U, U, U, U, U, U, U, U, U, U, U, U, U, U, U, U, U, U, U, U, U, U, U, U, U, U, U, U, U, U, U, U, U, U, U, U, U, U, U, U, U, U, U, U, U, U, U, U, U, U, U, U, U, U, U, U, U, U, U, U, U, U, U, U, U, U, U, U, U, U, U, U, U, U, U, U, U, U, U, U, U, U, U], [(.blk 10 [(c_GEdit a2750)])]⟩)] [] rfl (W4 g2762 g2760 g2757 g2755 <| Z g2754 Z0) (by kernel_rfl)
  have g2763 := bool_eq h2761
  rcases cnd_or h with ⟨h2764, h⟩ | ⟨h2764, h⟩
  ·have g2765 := bool_eq h2764
   obtain rfl := si h
   exact pv_z (F := F36) ⟨[ff 42, ff 50, ff 59, tt 68], []⟩ [((.exit 0), ⟨[U, U, (.ptr 0 1 0 0), U, U, bf, bf, bf, bf, bf, bt, bf, U, U, U, U, U, U, U, U, U, U, U, U, U, U, U, U, U, U, U, U, U, U, U, U, U, U, U, U, U, U, U, U, U, U, U, U, U, U, U, U, U, U, U, U, U, U, U, U, U, U, U, U, U, U, U, U, U, U, U, U, U, U, U, U, U, U, U, U, U, U, U, U, U, U, U, U, U, U, U, U, U, U, U], [(.blk 10 [(c_GEdit a2750)])]⟩)] [] rfl (W4 g2765 g2763 g2760 g2757 <| W2 g2755 g2754 Z0) (by kernel_rfl)
  have g2766 := bool_eq h2764
  have g2767 := len_sl (P := PP) (cf := evF PP T n) (fl := 0) (H := [(.blk 10 [(c_GEdit a2750)])]) (f := false) (c := c_GPoint) (l := a2750.Via)
  rcases cnd_or h with ⟨h2768, h⟩ | ⟨h2768, h⟩
  rotate_left
  ·have g2774 := bool_eq h2768
   obtain rfl := si h
   exact pv_z (F := F36) ⟨[ff 42, ff 50, ff 59, ff 68, (75, (iv ((a2750.Via.length : Nat) : Int)), none), ff 76], []⟩ [((.exit 0), ⟨[U, U, (.ptr 0 1 0 0), U, U, bf, bf, bf, bf, bf, bt, bf, U, U, U, U, U, U, U, U, U, U, U, U, U, U, U, U, U, U, U, U, U, U, U, U, U, U, U, U, U, U, U, U, U, U, U, U, U, U, U, U, U, U, U, U, U, U, U, U, U, U, U, U, U, U, U, U, U, U, U, U, U, U, U, U, U, U, U, U, U, U, U, U, U, U, U, U, U, U, U, U, U, U, U], [(.blk 10 [(c_GEdit a2750)])]⟩)] [] rfl (W8 g2774 g2767 g2766 g2763 g2760 g2757 g2755 g2754 Z0) (by kernel_rfl)
  have g2769 := bool_eq h2768
  have g2770 := len_sl (P := PP) (cf := evF PP T n) (fl := 0) (H := [(.blk 10 [(c_GEdit a2750)])]) (f := false) (c := c_i64) (l := a2750.Parts)
  rcases cnd_or h with ⟨h2771, h⟩ | ⟨h2771, h⟩
  ·have g2772 := bool_eq h2771
   obtain rfl := si h
   exact pv_z (F := F36) ⟨[ff 42, ff 50, ff 59, ff 68, (75, (iv ((a2750.Via.length : Nat) : Int)), none), tt 76, (91, (iv ((a2750.Parts.length : Nat) : Int)), none), tt 92], []⟩ [((.exit 0), ⟨[U, U, (.ptr 0 1 0 0), U, U, bf, bf, bf, bf, bf, bt, bf, U, U, U, U, U, U, U, U, U, U, U, U, U, U, U, U, U, U, U, U, U, U, U, U, U, U, U, U, U, U, U, U, U, U, U, U, U, U, U, U, U, U, U, U, U, U, U, U, U, U, U, U, U, U, U, U, U, U, U, U, U, U, U, U, U, U, U, U, U, U, U, U, U, U, U, U, U, U, U, U, U, U, U], [(.blk 10 [(c_GEdit a2750)])]⟩)] [] rfl (W8 g2772 g2770 g2769 g2767 g2766 g2763 g2760 g2757 <| W2 g2755 g2754 Z0) (by kernel_rfl)
  have g2773 := bool_eq h2771
  obtain rfl := si h
  exact pv_z (F := F36) ⟨[ff 42, ff 50, ff 59, ff 68, (75, (iv ((a2750.Via.length : Nat) : Int)), none), tt 76, (91, (iv ((a2750.Parts.length : Nat) : Int)), none), ff 92], []⟩ [((.exit 0), ⟨[U, U, (.ptr 0 1 0 0), U, U, bf, bf, bf, bf, bf, bt, bf, U, U, U, U, U, U, U, U, U, U, U, U, U, U, U, U, U, U, U, U, U, U, U, U, U, U, U, U, U, U, U, U, U, U, U, U, U, U, U, U, U, U, U, U, U, U, U, U, U, U, U, U, U, U, U, U, U, U, U, U, U, U, U, U, U, U, U, U, U, U, U, U, U, U, U, U, U, U, U, U, U, U, U], [(.blk 10 [(c_GEdit a2750)])]⟩)] [] rfl (W8 g2773 g2770 g2769 g2767 g2766 g2763 g2760 g2757 <| W2 g2755 g2754 Z0) (by kernel_rfl)
def f36_6 : Nat → GEdit → Option Bool
 | 0, _ => none
 | n + 1, a2776 => (bnd (prdk 2 n) fun n2777 => (cnd (decide (a2776.At = (GPoint.mk 0 0))) (cnd (a2776.A != 0) (some false) (cnd (a2776.C != 0) (some false) (cnd (((a2776.Via.length : Nat) : Int) == 0) (cnd (decide (a2776.Name = (⟨#[]⟩ : ByteArray))) (cnd (((a2776.Parts.length : Nat) : Int) == 0) (some true) (some false)) (some false)) (some false)))) (some false)))
theorem f36_6_ok (n : Nat) (a2776 : GEdit) (r : Bool) (h : f36_6 n a2776 = some r) : pv PP T n 36 [(.agg (c_GEdit a2776)), (sv (⟨#[98]⟩))] = some (bv r) := by
 cases n with
 | zero => cases h
 | succ n =>
  rw [f36_6] at h
  obtain ⟨n2777, e2778, h⟩ := bnd_some h
  have q2779 := prdk_eq e2778
  have g2780 : cleanQ false 0 1 [(.blk 10 [(c_GEdit a2776)])] := trivial
  have g2781 : maskR [false, false, true, false, false, true, true, true, true, true, true, true] [false, false, false, false, true] false 0 1 (evLoopH (headSt (some [false, true, true, false, false, true, true, true, true, true, true, true, true]) false 0 1) (evC PP (evF PP T n) n 0 L36_0) n ⟨[U, (sv (⟨#[98]⟩)), (.ptr 0 1 0 0), U, U, bf, bf, bf, bf, bf, bf, bf, (iv 0), U, U, U, U, U, U, U, U, U, U, U, U, U, U, U, U, U, U, U, U, U, U, U, U, U, U, U, U, U, U, U, U, U, U, U, U, U, U, U, U, U, U, U, U, U, U, U, U, U, U, U, U, U, U, U, U, U, U, U, U, U, U, U, U, U, U, U, U, U, U, U, U, U, U, U, U, U, U, U, U, U, U], [(.blk 10 [(c_GEdit a2776)])]⟩) = some ((.exit 0), ⟨[U, U, (.ptr 0 1 0 0), U, U, bf, bf, bt, bf, bf, bf, bf, U, U, U, U, U, U, U, U, U, U, U, U, U, U, U, U, U, U, U, U, U, U, U, U, U, U, U, U, U, U, U, U, U, U, U, U, U, U, U, U, U, U, U, U, U, U, U, U, U, U, U, U, U, U, U, U, U, U, U, U, U, U, U, U, U, U, U, U, U, U, U, U, U, U, U, U, U, U, U, U, U, U, U], [(.blk 10 [(c_GEdit a2776)])]⟩) := by rw [q2779]; kernel_rfl
  rcases cnd_or h with ⟨h2782, h⟩ | ⟨h2782, h⟩
  rotate_left
  ·have g2801 := c_GPoint_neq (cf := evF PP T n) (fl := 0) (H := [(.blk 10 [(c_GEdit a2776)])]) (a := a2776.At) (b := (GPoint.mk 0 0)) h2782
   obtain rfl := si h
   exact pv_z (F := F36) ⟨[tt 42], []⟩ [((.exit 0), ⟨[U, U, (.ptr 0 1 0 0), U, U, bf, bf, bt, bf, bf, bf, bf, U, U, U, U, U, U, U, U, U, U, U, U, U, U, U, U, U, U, U, U, U, U, U, U, U, U, U, U, U, U, U, U, U, U, U, U, U, U, U, U, U, U, U, U, U, U, U, U, U, U, U, U, U, U, U, U, U, U, U, U, U, U, U, U, U, U, U, U, U, U, U, U, U, U, U, U, U, U, U, U, U, U, U], [(.blk 10 [(c_GEdit a2776)])]⟩)] [] rfl (W2 g2801 g2781 <| Z g2780 Z0) (by kernel_rfl)
  have g2783 := c_GPoint_neq (cf := evF PP T n) (fl := 0) (H := [(.blk 10 [(c_GEdit a2776)])]) (a := a2776.At) (b := (GPoint.mk 0 0)) h2782
  rcases cnd_or h with ⟨h2784, h⟩ | ⟨h2784, h⟩
  ·have g2785 := bool_eq h2784
   obtain rfl := si h
   exact pv_z (F := F36) ⟨[ff 42, tt 50], []⟩ [((.exit 0), ⟨[U, U, (.ptr 0 1 0 0), U, U, bf, bf, bt, bf, bf, bf, bf, U, U, U, U, U, U, U, U, U, U, U, U, U, U, U, U, U, U, U, U, U, U, U, U, U, U, U, U, U, U, U, U, U, U, U, U, U, U, U, U, U, U, U, U, U, U, U, U, U, U, U, U, U, U, U, U, U, U, U, U, U, U, U, U, U, U, U, U, U, U, U, U, U, U, U, U, U, U, U, U, U, U, U], [(.blk 10 [(c_GEdit a2776)])]⟩)] [] rfl (W4 g2785 g2783 g2781 g2780 Z0) (by kernel_rfl)
  have g2786 := bool_eq h2784
  rcases cnd_or h with ⟨h2787, h⟩ | ⟨h2787, h⟩
  ·have g2788 := bool_eq h2787
   obtain rfl := si h
   exact pv_z (F := F36) ⟨[ff 42, ff 50, tt 68], []⟩ [((.exit 0), ⟨[U, U, (.ptr 0 1 0 0), U, U, bf, bf, bt, bf, bf, bf, bf, U, U, U, U, U, U, U, U, U, U, U, U, U, U, U, U, U, U, U, U, U, U, U, U, U, U, U, U, U, U, U, U, U, U, U, U, U, U, U, U, U, U, U, U, U, U, U, U, U, U, U, U, U, U, U, U, U, U, U, U, U, U, U, U, U, U, U, U, U, U, U, U, U, U, U, U, U, U, U, U, U, U, U], [(.blk 10 [(c_GEdit a2776)])]⟩)] [] rfl (W4 g2788 g2786 g2783 g2781 <| Z g2780 Z0) (by kernel_rfl)
  have g2789 := bool_eq h2787
  have g2790 := len_sl (P := PP) (cf := evF PP T n) (fl := 0) (H := [(.blk 10 [(c_GEdit a2776)])]) (f := false) (c := c_GPoint) (l := a2776.Via)
  rcases cnd_or h with ⟨h2791, h⟩ | ⟨h2791, h⟩
  rotate_left
  ·have g2800 := bool_eq h2791
   obtain rfl := si h
   exact pv_z (F := F36) ⟨[ff 42, ff 50, ff 68, (75, (iv ((a2776.Via.length : Nat) : Int)), none), ff 76], []⟩ [((.exit 0), ⟨[U, U, (.ptr 0 1 0 0), U, U, bf, bf, bt, bf, bf, bf, bf, U, U, U, U, U, U, U, U, U, U, U, U, U, U, U, U, U, U, U, U, U, U, U, U, U, U, U, U, U, U, U, U, U, U, U, U, U, U, U, U, U, U, U, U, U, U, U, U, U, U, U, U, U, U, U, U, U, U, U, U, U, U, U, U, U, U, U, U, U, U, U, U, U, U, U, U, U, U, U, U, U, U, U], [(.blk 10 [(c_GEdit a2776)])]⟩)] [] rfl (W4 g2800 g2790 g2789 g2786 <| W2 g2783 g2781 <| Z g2780 Z0) (by kernel_rfl)
  have g2792 := bool_eq h2791
  rcases cnd_or h with ⟨h2793, h⟩ | ⟨h2793, h⟩
  rotate_left
  ·have g2799 := c_str_eql (P := PP) (cf := evF PP T n) (fl := 0) (H := [(.blk 10 [(c_GEdit a2776)])]) (t := 9) h2793
   obtain rfl := si h
   exact pv_z (F := F36) ⟨[ff 42, ff 50, ff 68, (75, (iv ((a2776.Via.length : Nat) : Int)), none), tt 76, ff 83], []⟩ [((.exit 0), ⟨[U, U, (.ptr 0 1 0 0), U, U, bf, bf, bt, bf, bf, bf, bf, U, U, U, U, U, U, U, U, U, U, U, U, U, U, U, U, U, U, U, U, U, U, U, U, U, U, U, U, U, U, U, U, U, U, U, U, U, U, U, U, U, U, U, U, U, U, U, U, U, U, U, U, U, U, U, U, U, U, U, U, U, U, U, U, U, U, U, U, U, U, U, U, U, U, U, U, U, U, U, U, U, U, U], [(.blk 10 [(c_GEdit a2776)])]⟩)] [] rfl (W8 g2799 g2792 g2790 g2789 g2786 g2783 g2781 g2780 Z0) (by kernel_rfl)
  have g2794 := c_str_eql (P := PP) (cf := evF PP T n) (fl := 0) (H := [(.blk 10 [(c_GEdit a2776)])]) (t := 9) h2793
  have g2795 := len_sl (P := PP) (cf := evF PP T n) (fl := 0) (H := [(.blk 10 [(c_GEdit a2776)])]) (f := false) (c := c_i64) (l := a2776.Parts)
  rcases cnd_or h with ⟨h2796, h⟩ | ⟨h2796, h⟩
  ·have g2797 := bool_eq h2796
   obtain rfl := si h
   exact pv_z (F := F36) ⟨[ff 42, ff 50, ff 68, (75, (iv ((a2776.Via.length : Nat) : Int)), none), tt 76, tt 83, (91, (iv ((a2776.Parts.length : Nat) : Int)), none), tt 92], []⟩ [((.exit 0), ⟨[U, U, (.ptr 0 1 0 0), U, U, bf, bf, bt, bf, bf, bf, bf, U, U, U, U, U, U, U, U, U, U, U, U, U, U, U, U, U, U, U, U, U, U, U, U, U, U, U, U, U, U, U, U, U, U, U, U, U, U, U, U, U, U, U, U, U, U, U, U, U, U, U, U, U, U, U, U, U, U, U, U, U, U, U, U, U, U, U, U, U, U, U, U, U, U, U, U, U, U, U, U, U, U, U], [(.blk 10 [(c_GEdit a2776)])]⟩)] [] rfl (W8 g2797 g2795 g2794 g2792 g2790 g2789 g2786 g2783 <| W2 g2781 g2780 Z0) (by kernel_rfl)
  have g2798 := bool_eq h2796
  obtain rfl := si h
  exact pv_z (F := F36) ⟨[ff 42, ff 50, ff 68, (75, (iv ((a2776.Via.length : Nat) : Int)), none), tt 76, tt 83, (91, (iv ((a2776.Parts.length : Nat) : Int)), none), ff 92], []⟩ [((.exit 0), ⟨[U, U, (.ptr 0 1 0 0), U, U, bf, bf, bt, bf, bf, bf, bf, U, U, U, U, U, U, U, U, U, U, U, U, U, U, U, U, U, U, U, U, U, U, U, U, U, U, U, U, U, U, U, U, U, U, U, U, U, U, U, U, U, U, U, U, U, U, U, U, U, U, U, U, U, U, U, U, U, U, U, U, U, U, U, U, U, U, U, U, U, U, U, U, U, U, U, U, U, U, U, U, U, U, U], [(.blk 10 [(c_GEdit a2776)])]⟩)] [] rfl (W8 g2798 g2795 g2794 g2792 g2790 g2789 g2786 g2783 <| W2 g2781 g2780 Z0) (by kernel_rfl)
def f36_7 : Nat → GEdit → Option Bool
 | 0, _ => none
 | n + 1, a2802 => (bnd (prdk 2 n) fun n2803 => (cnd (decide (a2802.At = (GPoint.mk 0 0))) (cnd (a2802.A != 0) (some false) (cnd (a2802.B != 0) (some false) (cnd (a2802.C != 0) (some false) (cnd (((a2802.Via.length : Nat) : Int) == 0) (cnd (decide (a2802.Name = (⟨#[]⟩ : ByteArray))) (some true) (some false)) (some false))))) (some false)))
theorem f36_7_ok (n : Nat) (a2802 : GEdit) (r : Bool) (h : f36_7 n a2802 = some r) : pv PP T n 36 [(.agg (c_GEdit a2802)), (sv (⟨#[112]⟩))] = some (bv r) := by
 cases n with
 | zero => cases h
 | succ n =>
  rw [f36_7] at h
  obtain ⟨n2803, e2804, h⟩ := bnd_some h
  have q2805 := prdk_eq e2804
  have g2806 : cleanQ false 0 1 [(.blk 10 [(c_GEdit a2802)])] := trivial
  have g2807 : maskR [false, false, true, false, false, true, true, true, true, true, true, true] [false, false, false, false, true] false 0 1 (evLoopH (headSt (some [false, true, true, false, false, true, true, true, true, true, true, true, true]) false 0 1) (evC PP (evF PP T n) n 0 L36_0) n ⟨[U, (sv (⟨#[112]⟩)), (.ptr 0 1 0 0), U, U, bf, bf, bf, bf, bf, bf, bf, (iv 0), U, U, U, U, U, U, U, U, U, U, U, U, U, U, U, U, U, U, U, U, U, U, U, U, U, U, U, U, U, U, U, U, U, U, U, U, U, U, U, U, U, U, U, U, U, U, U, U, U, U, U, U, U, U, U, U, U, U, U, U, U, U, U, U, U, U, U, U, U, U, U, U, U, U, U, U, U, U, U, U, U, U], [(.blk 10 [(c_GEdit a2802)])]⟩) = some ((.exit 0), ⟨[U, U, (.ptr 0 1 0 0), U, U, bf, bf, bf, bf, bf, bf, bt, U, U, U, U, U, U, U, U, U, U, U, U, U, U, U, U, U, U, U, U, U, U, U, U, U, U, U, U, U, U, U, U, U, U, U, U, U, U, U, U, U, U, U, U, U, U, U, U, U, U, U, U, U, U, U, U, U, U, U, U, U, U, U, U, U, U, U, U, U, U, U, U, U, U, U, U, U, U, U, U, U, U, U], [(.blk 10 [(c_GEdit a2802)])]⟩) := by rw [q2805]; kernel_rfl
  rcases cnd_or h with ⟨h2808, h⟩ | ⟨h2808, h⟩
  rotate_left
  ·have g2826 := c_GPoint_neq (cf := evF PP T n) (fl := 0) (H := [(.blk 10 [(c_GEdit a2802)])]) (a := a2802.At) (b := (GPoint.mk 0 0)) h2808
   obtain rfl := si h
   exact pv_z (F := F36) ⟨[tt 42], []⟩ [((.exit 0), ⟨[U, U, (.ptr 0 1 0 0), U, U, bf, bf, bf, bf, bf, bf, bt, U, U, U, U, U, U, U, U, U, U, U, U, U, U, U, U, U, U, U, U, U, U, U, U, U, U, U, U, U, U, U, U, U, U, U, U, U, U, U, U, U, U, U, U, U, U, U, U, U, U, U, U, U, U, U, U, U, U, U, U, U, U, U, U, U, U, U, U, U, U, U, U, U, U, U, U, U, U, U, U, U, U, U], [(.blk 10 [(c_GEdit a2802)])]⟩)] [] rfl (W2 g2826 g2807 <| Z g2806 Z0) (by kernel_rfl)
  have g2809 := c_GPoint_neq (cf := evF PP T n) (fl := 0) (H := [(.blk 10 [(c_GEdit a2802)])]) (a := a2802.At) (b := (GPoint.mk 0 0)) h2808
  rcases cnd_or h with ⟨h2810, h⟩ | ⟨h2810, h⟩
  ·have g2811 := bool_eq h2810
   obtain rfl := si h
   exact pv_z (F := F36) ⟨[ff 42, tt 50], []⟩ [((.exit 0), ⟨[U, U, (.ptr 0 1 0 0), U, U, bf, bf, bf, bf, bf, bf, bt, U, U, U, U, U, U, U, U, U, U, U, U, U, U, U, U, U, U, U, U, U, U, U, U, U, U, U, U, U, U, U, U, U, U, U, U, U, U, U, U, U, U, U, U, U, U, U, U, U, U, U, U, U, U, U, U, U, U, U, U, U, U, U, U, U, U, U, U, U, U, U, U, U, U, U, U, U, U, U, U, U, U, U], [(.blk 10 [(c_GEdit a2802)])]⟩)] [] rfl (W4 g2811 g2809 g2807 g2806 Z0) (by kernel_rfl)
  have g2812 := bool_eq h2810
  rcases cnd_or h with ⟨h2813, h⟩ | ⟨h2813, h⟩
  ·have g2814 := bool_eq h2813
   obtain rfl := si h
   exact pv_z (F := F36) ⟨[ff 42, ff 50, tt 59], []⟩ [((.exit 0), ⟨[U, U, (.ptr 0 1 0 0), U, U, bf, bf, bf, bf, bf, bf, bt, U, U, U, U, U, U, U, U, U, U, U, U, U, U, U, U, U, U, U, U, U, U, U, U, U, U, U, U, U, U, U, U, U, U, U, U, U, U, U, U, U, U, U, U, U, U, U, U, U, U, U, U, U, U, U, U, U, U, U, U, U, U, U, U, U, U, U, U, U, U, U, U, U, U, U, U, U, U, U, U, U, U, U], [(.blk 10 [(c_GEdit a2802)])]⟩)] [] rfl (W4 g2814 g2812 g2809 g2807 <| Z g2806 Z0) (by kernel_rfl)
  have g2815 := bool_eq h2813
  rcases cnd_or h with ⟨h2816, h⟩ | ⟨h2816, h⟩
  ·have g2817 := bool_eq h2816
   obtain rfl := si h
   exact pv_z (F := F36) ⟨[ff 42, ff 50, ff 59, tt 68], []⟩ [((.exit 0), ⟨[U, U, (.ptr 0 1 0 0), U, U, bf, bf, bf, bf, bf, bf, bt, U, U, U, U, U, U, U, U, U, U, U, U, U, U, U, U, U, U, U, U, U, U, U, U, U, U, U, U, U, U, U, U, U, U, U, U, U, U, U, U, U, U, U, U, U, U, U, U, U, U, U, U, U, U, U, U, U, U, U, U, U, U, U, U, U, U, U, U, U, U, U, U, U, U, U, U, U, U, U, U, U, U, U], [(.blk 10 [(c_GEdit a2802)])]⟩)] [] rfl (W4 g2817 g2815 g2812 g2809 <| W2 g2807 g2806 Z0) (by kernel_rfl)
  have g2818 := bool_eq h2816
  have g2819 := len_sl (P := PP) (cf := evF PP T n) (fl := 0) (H := [(.blk 10 [(c_GEdit a2802)])]) (f := false) (c := c_GPoint) (l := a2802.Via)
  rcases cnd_or h with ⟨h2820, h⟩ | ⟨h2820, h⟩
  rotate_left
  ·have g2825 := bool_eq h2820
   obtain rfl := si h
   exact pv_z (F := F36) ⟨[ff 42, ff 50, ff 59, ff 68, (75, (iv ((a2802.Via.length : Nat) : Int)), none), ff 76], []⟩ [((.exit 0), ⟨[U, U, (.ptr 0 1 0 0), U, U, bf, bf, bf, bf, bf, bf, bt, U, U, U, U, U, U, U, U, U, U, U, U, U, U, U, U, U, U, U, U, U, U, U, U, U, U, U, U, U, U, U, U, U, U, U, U, U, U, U, U, U, U, U, U, U, U, U, U, U, U, U, U, U, U, U, U, U, U, U, U, U, U, U, U, U, U, U, U, U, U, U, U, U, U, U, U, U, U, U, U, U, U, U], [(.blk 10 [(c_GEdit a2802)])]⟩)] [] rfl (W8 g2825 g2819 g2818 g2815 g2812 g2809 g2807 g2806 Z0) (by kernel_rfl)
  have g2821 := bool_eq h2820
  rcases cnd_or h with ⟨h2822, h⟩ | ⟨h2822, h⟩
  ·have g2823 := c_str_eql (P := PP) (cf := evF PP T n) (fl := 0) (H := [(.blk 10 [(c_GEdit a2802)])]) (t := 9) h2822
   obtain rfl := si h
   exact pv_z (F := F36) ⟨[ff 42, ff 50, ff 59, ff 68, (75, (iv ((a2802.Via.length : Nat) : Int)), none), tt 76, tt 83], []⟩ [((.exit 0), ⟨[U, U, (.ptr 0 1 0 0), U, U, bf, bf, bf, bf, bf, bf, bt, U, U, U, U, U, U, U, U, U, U, U, U, U, U, U, U, U, U, U, U, U, U, U, U, U, U, U, U, U, U, U, U, U, U, U, U, U, U, U, U, U, U, U, U, U, U, U, U, U, U, U, U, U, U, U, U, U, U, U, U, U, U, U, U, U, U, U, U, U, U, U, U, U, U, U, U, U, U, U, U, U, U, U], [(.blk 10 [(c_GEdit a2802)])]⟩)] [] rfl (W8 g2823 g2821 g2819 g2818 g2815 g2812 g2809 g2807 <| Z g2806 Z0) (by kernel_rfl)
  have g2824 := c_str_eql (P := PP) (cf := evF PP T n) (fl := 0) (H := [(.blk 10 [(c_GEdit a2802)])]) (t := 9) h2822
  obtain rfl := si h
  exact pv_z (F := F36) ⟨[ff 42, ff 50, ff 59, ff 68, (75, (iv ((a2802.Via.length : Nat) : Int)), none), tt 76, ff 83], []⟩ [((.exit 0), ⟨[U, U, (.ptr 0 1 0 0), U, U, bf, bf, bf, bf, bf, bf, bt, U, U, U, U, U, U, U, U, U, U, U, U, U, U, U, U, U, U, U, U, U, U, U, U, U, U, U, U, U, U, U, U, U, U, U, U, U, U, U, U, U, U, U, U, U, U, U, U, U, U, U, U, U, U, U, U, U, U, U, U, U, U, U, U, U, U, U, U, U, U, U, U, U, U, U, U, U, U, U, U, U, U, U], [(.blk 10 [(c_GEdit a2802)])]⟩)] [] rfl (W8 g2824 g2821 g2819 g2818 g2815 g2812 g2809 g2807 <| Z g2806 Z0) (by kernel_rfl)
def f36_8 : Nat → GEdit → Option Bool
 | 0, _ => none
 | n + 1, a2827 => (bnd (prdk 2 n) fun n2828 => (cnd (decide (a2827.At = (GPoint.mk 0 0))) (cnd (a2827.B != 0) (some false) (cnd (a2827.C != 0) (some false) (cnd (((a2827.Via.length : Nat) : Int) == 0) (cnd (decide (a2827.Name = (⟨#[]⟩ : ByteArray))) (cnd (((a2827.Parts.length : Nat) : Int) == 0) (some true) (some false)) (some false)) (some false)))) (some false)))
theorem f36_8_ok (n : Nat) (a2827 : GEdit) (r : Bool) (h : f36_8 n a2827 = some r) : pv PP T n 36 [(.agg (c_GEdit a2827)), (sv (⟨#[97]⟩))] = some (bv r) := by
 cases n with
 | zero => cases h
 | succ n =>
  rw [f36_8] at h
  obtain ⟨n2828, e2829, h⟩ := bnd_some h
  have q2830 := prdk_eq e2829
  have g2831 : cleanQ false 0 1 [(.blk 10 [(c_GEdit a2827)])] := trivial
  have g2832 : maskR [false, false, true, false, false, true, true, true, true, true, true, true] [false, false, false, false, true] false 0 1 (evLoopH (headSt (some [false, true, true, false, false, true, true, true, true, true, true, true, true]) false 0 1) (evC PP (evF PP T n) n 0 L36_0) n ⟨[U, (sv (⟨#[97]⟩)), (.ptr 0 1 0 0), U, U, bf, bf, bf, bf, bf, bf, bf, (iv 0), U, U, U, U, U, U, U, U, U, U, U, U, U, U, U, U, U, U, U, U, U, U, U, U, U, U, U, U, U, U, U, U, U, U, U, U, U, U, U, U, U, U, U, U, U, U, U, U, U, U, U, U, U, U, U, U, U, U, U, U, U, U, U, U, U, U, U, U, U, U, U, U, U, U, U, U, U, U, U, U, U, U], [(.blk 10 [(c_GEdit a2827)])]⟩) = some ((.exit 0), ⟨[U, U, (.ptr 0 1 0 0), U, U, bf, bt, bf, bf, bf, bf, bf, U, U, U, U, U, U, U, U, U, U, U, U, U, U, U, U, U, U, U, U, U, U, U, U, U, U, U, U, U, U, U, U, U, U, U, U, U, U, U, U, U, U, U, U, U, U, U, U, U, U, U, U, U, U, U, U, U, U, U, U, U, U, U, U, U, U, U, U, U, U, U, U, U, U, U, U, U, U, U, U, U, U, U], [(.blk 10 [(c_GEdit a2827)])]⟩) := by rw [q2830]; kernel_rfl
  rcases cnd_or h with ⟨h2833, h⟩ | ⟨h2833, h⟩
  rotate_left
  ·have g2852 := c_GPoint_neq (cf := evF PP T n) (fl := 0) (H := [(.blk 10 [(c_GEdit a2827)])]) (a := a2827.At) (b := (GPoint.mk 0 0)) h2833
   obtain rfl := si h
   exact pv_z (F := F36) ⟨[tt 42], []⟩ [((.exit 0), ⟨[U, U, (.ptr 0 1 0 0), U, U, bf, bt, bf, bf, bf, bf, bf, U, U, U, U, U, U, U, U, U, U, U, U, U, U, U, U, U, U, U, U, U, U, U, U, U, U, U, U, U, U, U, U, U, U, U, U, U, U, U, U, U, U, U, U, U, U, U, U, U, U, U, U, U, U, U, U, U, U, U, U, U, U, U, U, U, U, U, U, U, U, U, U, U, U, U, U, U, U, U, U, U, U, U], [(.blk 10 [(c_GEdit a2827)])]⟩)] [] rfl (W2 g2852 g2832 <| Z g2831 Z0) (by kernel_rfl)
  have g2834 := c_GPoint_neq (cf := evF PP T n) (fl := 0) (H := [(.blk 10 [(c_GEdit a2827)])]) (a := a2827.At) (b := (GPoint.mk 0 0)) h2833
  rcases cnd_or h with ⟨h2835, h⟩ | ⟨h2835, h⟩
  ·have g2836 := bool_eq h2835
   obtain rfl := si h
   exact pv_z (F := F36) ⟨[ff 42, tt 59], []⟩ [((.exit 0), ⟨[U, U, (.ptr 0 1 0 0), U, U, bf, bt, bf, bf, bf, bf, bf, U, U, U, U, U, U, U, U, U, U, U, U, U, U, U, U, U, U, U, U, U, U, U, U, U, U, U, U, U, U, U, U, U, U, U, U, U, U, U, U, U, U, U, U, U, U, U, U, U, U, U, U, U, U, U, U, U, U, U, U, U, U, U, U, U, U, U, U, U, U, U, U, U, U, U, U, U, U, U, U, U, U, U], [(.blk 10 [(c_GEdit a2827)])]⟩)] [] rfl (W4 g2836 g2834 g2832 g2831 Z0) (by kernel_rfl)
  have g2837 := bool_eq h2835
  rcases cnd_or h with ⟨h2838, h⟩ | ⟨h2838, h⟩
  ·have g2839 := bool_eq h2838
   obtain rfl := si h
   exact pv_z (F := F36) ⟨[ff 42, ff 59, tt 68], []⟩ [((.exit 0), ⟨[U, U, (.ptr 0 1 0 0), U, U, bf, bt, bf, bf, bf, bf, bf, U, U, U, U, U, U, U, U, U, U, U, U, U, U, U, U, U, U, U, U, U, U, U, U, U, U, U, U, U, U, U, U, U, U, U, U, U, U, U, U, U, U, U, U, U, U, U, U, U, U, U, U, U, U, U, U, U, U, U, U, U, U, U, U, U, U, U, U, U, U, U, U, U, U, U, U, U, U, U, U, U, U, U], [(.blk 10 [(c_GEdit a2827)])]⟩)] [] rfl (W4 g2839 g2837 g2834 g2832 <| Z g2831 Z0) (by kernel_rfl)
  have g2840 := bool_eq h2838
  have g2841 := len_sl (P := PP) (cf := evF PP T n) (fl := 0) (H := [(.blk 10 [(c_GEdit a2827)])]) (f := false) (c := c_GPoint) (l := a2827.Via)
  rcases cnd_or h with ⟨h2842, h⟩ | ⟨h2842, h⟩
  rotate_left
  ·have g2851 := bool_eq h2842
   obtain rfl := si h
   exact pv_z (F := F36) ⟨[ff 42, ff 59, ff 68, (75, (iv ((a2827.Via.length : Nat) : Int)), none), ff 76], []⟩ [((.exit 0), ⟨[U, U, (.ptr 0 1 0 0), U, U, bf, bt, bf, bf, bf, bf, bf, U, U, U, U, U, U, U, U, U, U, U, U, U, U, U, U, U, U, U, U, U, U, U, U, U, U, U, U, U, U, U, U, U, U, U, U, U, U, U, U, U, U, U, U, U, U, U, U, U, U, U, U, U, U, U, U, U, U, U, U, U, U, U, U, U, U, U, U, U, U, U, U, U, U, U, U, U, U, U, U, U, U, U], [(.blk 10 [(c_GEdit a2827)])]⟩)] [] rfl (W4 g2851 g2841 g2840 g2837 <| W2 g2834 g2832 <| Z g2831 Z0) (by kernel_rfl)
  have g2843 := bool_eq h2842
  rcases cnd_or h with ⟨h2844, h⟩ | ⟨h2844, h⟩
  rotate_left
  ·have g2850 := c_str_eql (P := PP) (cf := evF PP T n) (fl := 0) (H := [(.blk 10 [(c_GEdit a2827)])]) (t := 9) h2844
   obtain rfl := si h
   exact pv_z (F := F36) ⟨[ff 42, ff 59, ff 68, (75, (iv ((a2827.Via.length : Nat) : Int)), none), tt 76, ff 83], []⟩ [((.exit 0), ⟨[U, U, (.ptr 0 1 0 0), U, U, bf, bt, bf, bf, bf, bf, bf, U, U, U, U, U, U, U, U, U, U, U, U, U, U, U, U, U, U, U, U, U, U, U, U, U, U, U, U, U, U, U, U, U, U, U, U, U, U, U, U, U, U, U, U, U, U, U, U, U, U, U, U, U, U, U, U, U, U, U, U, U, U, U, U, U, U, U, U, U, U, U, U, U, U, U, U, U, U, U, U, U, U, U], [(.blk 10 [(c_GEdit a2827)])]⟩)] [] rfl (W8 g2850 g2843 g2841 g2840 g2837 g2834 g2832 g2831 Z0) (by kernel_rfl)
  have g2845 := c_str_eql (P := PP) (cf := evF PP T n) (fl := 0) (H := [(.blk 10 [(c_GEdit a2827)])]) (t := 9) h2844
  have g2846 := len_sl (P := PP) (cf := evF PP T n) (fl := 0) (H := [(.blk 10 [(c_GEdit a2827)])]) (f := false) (c := c_i64) (l := a2827.Parts)
  rcases cnd_or h with ⟨h2847, h⟩ | ⟨h2847, h⟩
  ·have g2848 := bool_eq h2847
   obtain rfl := si h
   exact pv_z (F := F36) ⟨[ff 42, ff 59, ff 68, (75, (iv ((a2827.Via.length : Nat) : Int)), none), tt 76, tt 83, (91, (iv ((a2827.Parts.length : Nat) : Int)), none), tt 92], []⟩ [((.exit 0), ⟨[U, U, (.ptr 0 1 0 0), U, U, bf, bt, bf, bf, bf, bf, bf, U, U, U, U, U, U, U, U, U, U, U, U, U, U, U, U, U, U, U, U, U, U, U, U, U, U, U, U, U, U, U, U, U, U, U, U, U, U, U, U, U, U, U, U, U, U, U, U, U, U, U, U, U, U, U, U, U, U, U, U, U, U, U, U, U, U, U, U, U, U, U, U, U, U, U, U, U, U, U, U, U, U, U], [(.blk 10 [(c_GEdit a2827)])]⟩)] [] rfl (W8 g2848 g2846 g2845 g2843 g2841 g2840 g2837 g2834 <| W2 g2832 g2831 Z0) (by kernel_rfl)
  have g2849 := bool_eq h2847
  obtain rfl := si h
  exact pv_z (F := F36) ⟨[ff 42, ff 59, ff 68, (75, (iv ((a2827.Via.length : Nat) : Int)), none), tt 76, tt 83, (91, (iv ((a2827.Parts.length : Nat) : Int)), none), ff 92], []⟩ [((.exit 0), ⟨[U, U, (.ptr 0 1 0 0), U, U, bf, bt, bf, bf, bf, bf, bf, U, U, U, U, U, U, U, U, U, U, U, U, U, U, U, U, U, U, U, U, U, U, U, U, U, U, U, U, U, U, U, U, U, U, U, U, U, U, U, U, U, U, U, U, U, U, U, U, U, U, U, U, U, U, U, U, U, U, U, U, U, U, U, U, U, U, U, U, U, U, U, U, U, U, U, U, U, U, U, U, U, U, U], [(.blk 10 [(c_GEdit a2827)])]⟩)] [] rfl (W8 g2849 g2846 g2845 g2843 g2841 g2840 g2837 g2834 <| W2 g2832 g2831 Z0) (by kernel_rfl)
def f36 (n : Nat) (x : GEdit) (s : ByteArray) : Option Bool := if s = ⟨#[]⟩ then f36_0 n x else if s = ⟨#[116]⟩ then f36_1 n x else if s = ⟨#[97, 98, 99, 118]⟩ then f36_2 n x else if s = ⟨#[118]⟩ then f36_3 n x else if s = ⟨#[97, 98, 110, 112]⟩ then f36_4 n x else if s = ⟨#[110]⟩ then f36_5 n x else if s = ⟨#[98]⟩ then f36_6 n x else if s = ⟨#[112]⟩ then f36_7 n x else if s = ⟨#[97]⟩ then f36_8 n x else none
theorem f36_ok (n : Nat) (x : GEdit) (s : ByteArray) (r : Bool) (h : f36 n x s = some r) : pv PP T n 36 [.agg (c_GEdit x), sv s] = some (bv r) := by
 unfold f36 at h
 split at h
 ·rename_i e; subst e; exact f36_0_ok n x r h
 split at h
 ·rename_i e; subst e; exact f36_1_ok n x r h
 split at h
 ·rename_i e; subst e; exact f36_2_ok n x r h
 split at h
 ·rename_i e; subst e; exact f36_3_ok n x r h
 split at h
 ·rename_i e; subst e; exact f36_4_ok n x r h
 split at h
 ·rename_i e; subst e; exact f36_5_ok n x r h
 split at h
 ·rename_i e; subst e; exact f36_6_ok n x r h
 split at h
 ·rename_i e; subst e; exact f36_7_ok n x r h
 split at h
 ·rename_i e; subst e; exact f36_8_ok n x r h
 cases h
def f61 : Nat → Int → Option Bool
 | 0, _ => none
 | n + 1, a2853 => (cnd (decide (a2853 ≥ 1)) (cnd (decide (a2853 ≤ 1073741824)) (some true) (some false)) (some false))
theorem f61_ok (n : Nat) (a2853 : Int) (r : Bool) (h : f61 n a2853 = some r) : pv PP T n 61 [(iv a2853)] = some (bv r) := by
 cases n with
 | zero => cases h
 | succ n =>
  rw [f61] at h
  rcases cnd_or h with ⟨h2854, h⟩ | ⟨h2854, h⟩
  rotate_left
  ·have g2859 := bool_eq h2854
   obtain rfl := si h
   exact pz F61 ⟨[ff 4], []⟩ (Z g2859 Z0)
  have g2855 := bool_eq h2854
  rcases cnd_or h with ⟨h2856, h⟩ | ⟨h2856, h⟩
  ·have g2857 := bool_eq h2856
   obtain rfl := si h
   exact pz F61 ⟨[tt 4, tt 7], []⟩ (W2 g2857 g2855 Z0)
  have g2858 := bool_eq h2856
  obtain rfl := si h
  exact pz F61 ⟨[tt 4, ff 7], []⟩ (W2 g2858 g2855 Z0)
def f62 : Nat → GPoint → Option Bool
 | 0, _ => none
 | n + 1, a2860 => (cnd (decide (a2860.X ≥ (-1048576))) (cnd (decide (a2860.X ≤ 1048576)) (cnd (decide (a2860.Y ≥ (-1048576))) (cnd (decide (a2860.Y ≤ 1048576)) (some true) (some false)) (some false)) (some false)) (some false))
theorem f62_ok (n : Nat) (a2860 : GPoint) (r : Bool) (h : f62 n a2860 = some r) : pv PP T n 62 [(.agg (c_GPoint a2860))] = some (bv r) := by
 cases n with
 | zero => cases h
 | succ n =>
  rw [f62] at h
  rcases cnd_or h with ⟨h2861, h⟩ | ⟨h2861, h⟩
  rotate_left
  ·have g2872 := bool_eq h2861
   obtain rfl := si h
   exact pz F62 ⟨[ff 5], []⟩ (Z g2872 Z0)
  have g2862 := bool_eq h2861
  rcases cnd_or h with ⟨h2863, h⟩ | ⟨h2863, h⟩
  rotate_left
  ·have g2871 := bool_eq h2863
   obtain rfl := si h
   exact pz F62 ⟨[tt 5, ff 9], []⟩ (W2 g2871 g2862 Z0)
  have g2864 := bool_eq h2863
  rcases cnd_or h with ⟨h2865, h⟩ | ⟨h2865, h⟩
  rotate_left
  ·have g2870 := bool_eq h2865
   obtain rfl := si h
   exact pz F62 ⟨[tt 5, tt 9, ff 14], []⟩ (W2 g2870 g2864 <| Z g2862 Z0)
  have g2866 := bool_eq h2865
  rcases cnd_or h with ⟨h2867, h⟩ | ⟨h2867, h⟩
  ·have g2868 := bool_eq h2867
   obtain rfl := si h
   exact pz F62 ⟨[tt 5, tt 9, tt 14, tt 19], []⟩ (W4 g2868 g2866 g2864 g2862 Z0)
  have g2869 := bool_eq h2867
  obtain rfl := si h
  exact pz F62 ⟨[tt 5, tt 9, tt 14, ff 19], []⟩ (W4 g2869 g2866 g2864 g2862 Z0)
def f37_L0_S (a2873 : GEdit) (i2912 : Int) : St := ⟨[U, (.ptr 0 1 0 0), U, (iv i2912), U, U, U, U, U, U, U, U, U, U, U, U, U, U, U, U, U, U, U, U, U, U, U, U, U, U, U, U, U, U, U, U, U, U, U, U, U, U, U, U, U, U, U, U, U, U, U, U, U, U, U, U, U, U, U, U, U, U, U, U, U, U, U, U, U, U, U, U, U, U, U, U, U, U, U, U, U, U, U, U, U, U, U, U, U, U, U, U, U, U, U, U], [(.blk 10 [(c_GEdit a2873)])]⟩
def f37_L0_E0 (a2873 : GEdit) : St := ⟨[U, U, bf, U, U, U, U, U, U, U, U, U, U, U, U, U, U, U, U, U, U, U, U, U, U, U, U, U, U, U, U, U, U, U, U, U, U, U, U, U, U, U, U, U, U, U, U, U, U, U, U, U, U, U, U, U, U, U, U, U, U, U, U, U, U, U, U, U, U, U, U, U, U, U, U, U, U, U, U, U, U, U, U, U, U, U, U, U, U, U, U, U, U, U, U, U], [(.blk 10 [(c_GEdit a2873)])]⟩
def f37_L0_E1 (a2873 : GEdit) : St := ⟨[U, (.ptr 0 1 0 0), U, U, U, U, U, U, U, U, U, U, U, U, U, U, U, U, U, U, U, U, U, U, U, U, U, U, U, U, U, U, U, U, U, U, U, U, U, U, U, U, U, U, U, U, U, U, U, U, U, U, U, U, U, U, U, U, U, U, U, U, U, U, U, U, U, U, U, U, U, U, U, U, U, U, U, U, U, U, U, U, U, U, U, U, U, U, U, U, U, U, U, U, U, U], [(.blk 10 [(c_GEdit a2873)])]⟩
def f37_L0 (n : Nat) (a2873 : GEdit) : Nat → Int → Option (Unit ⊕ Unit)
 | 0, _ => none
 | m + 1, i2912 => (cnd (decide (i2912 < ((a2873.Via.length : Nat) : Int))) (bnd (idx a2873.Via i2912) fun x2928 => (bnd (f62 n x2928) fun v2931 => (cnd (v2931) (f37_L0 n a2873 m (IntKind.i64.wrap (i2912 + 1))) (some (Sum.inl ()))))) (some (Sum.inr ())))
theorem f37_L0_ok (n : Nat) (a2873 : GEdit) : ∀ (m : Nat) (i2912 : Int) (r : (Unit ⊕ Unit)), f37_L0 n a2873 m i2912 = some r → maskR [false, true] [false, false, true] false 0 1 (evLoopH (headSt (some [false, true, false, true]) false 0 1) (evC PP (evF PP T n) n 0 L37_0) m (f37_L0_S a2873 i2912)) = (match r with | .inl r => some (.ret, f37_L0_E0 a2873) | .inr r => some ((.exit 0), f37_L0_E1 a2873))
 | 0, _, _, h => by cases h
 | m + 1, i2912, r, h => by
  rw [f37_L0] at h
  have g2925 := len_sl (P := PP) (cf := evF PP T n) (fl := 0) (H := [(.blk 10 [(c_GEdit a2873)])]) (f := false) (c := c_GPoint) (l := a2873.Via)
  rcases cnd_or h with ⟨h2926, h⟩ | ⟨h2926, h⟩
  rotate_left
  ·have g2936 := bool_eq h2926
   obtain rfl := si h
   exact last_z (live := some [false, true, false, true]) (tr' := false) (st' := f37_L0_E1 a2873) ⟨[(68, (iv ((a2873.Via.length : Nat) : Int)), none), ff 69], []⟩ [] [] rfl (W2 g2936 g2925 Z0) (by kernel_rfl) trivial
  have g2927 := bool_eq h2926
  obtain ⟨x2928, e2929, h⟩ := bnd_some h
  have g2930 := idxl (H := [(.blk 10 [(c_GEdit a2873)])]) (f := false) (c := c_GPoint) e2929 (c_GPoint_len _)
  obtain ⟨v2931, e2932, h⟩ := bnd_some h
  rcases cnd_or h with ⟨h2933, h⟩ | ⟨h2933, h⟩
  rotate_left
  ·have g2935 := by have q := f62_ok n x2928 _ e2932; rw [h2933] at q; exact q
   obtain rfl := si h
   exact last_z (live := some [false, true, false, true]) (tr' := false) (st' := f37_L0_E0 a2873) ⟨[(68, (iv ((a2873.Via.length : Nat) : Int)), none), tt 69, (75, (.rptr [(iv x2928.X), (iv x2928.Y)]), none), ff 77], []⟩ [] [] rfl (W4 g2935 g2930 g2927 g2925 Z0) (by kernel_rfl) trivial
  have g2934 := by have q := f62_ok n x2928 _ e2932; rw [h2933] at q; exact q
  exact (congrArg (maskR [false, true] [false, false, true] false 0 1) (next_z (live := some [false, true, false, true]) (tr := false) (st' := f37_L0_S a2873 (IntKind.i64.wrap (i2912 + 1))) ⟨[(68, (iv ((a2873.Via.length : Nat) : Int)), none), tt 69, (75, (.rptr [(iv x2928.X), (iv x2928.Y)]), none), tt 77], []⟩ [] [] rfl (W4 g2934 g2930 g2927 g2925 Z0) (by kernel_rfl) trivial rfl)).trans (f37_L0_ok n a2873 m (IntKind.i64.wrap (i2912 + 1)) r h)
def f37_L1_S (a2873 : GEdit) (i2954 : Int) : St := ⟨[U, (.ptr 0 1 0 0), U, U, (iv i2954), U, U, U, U, U, U, U, U, U, U, U, U, U, U, U, U, U, U, U, U, U, U, U, U, U, U, U, U, U, U, U, U, U, U, U, U, U, U, U, U, U, U, U, U, U, U, U, U, U, U, U, U, U, U, U, U, U, U, U, U, U, U, U, U, U, U, U, U, U, U, U, U, U, U, U, U, U, U, U, U, U, U, U, U, U, U, U, U, U, U, U], [(.blk 10 [(c_GEdit a2873)])]⟩
def f37_L1_E0 (a2873 : GEdit) : St := ⟨[U, U, bf, U, U, U, U, U, U, U, U, U, U, U, U, U, U, U, U, U, U, U, U, U, U, U, U, U, U, U, U, U, U, U, U, U, U, U, U, U, U, U, U, U, U, U, U, U, U, U, U, U, U, U, U, U, U, U, U, U, U, U, U, U, U, U, U, U, U, U, U, U, U, U, U, U, U, U, U, U, U, U, U, U, U, U, U, U, U, U, U, U, U, U, U, U], [(.blk 10 [(c_GEdit a2873)])]⟩
def f37_L1_E1 (a2873 : GEdit) : St := ⟨[U, (.ptr 0 1 0 0), U, U, U, U, U, U, U, U, U, U, U, U, U, U, U, U, U, U, U, U, U, U, U, U, U, U, U, U, U, U, U, U, U, U, U, U, U, U, U, U, U, U, U, U, U, U, U, U, U, U, U, U, U, U, U, U, U, U, U, U, U, U, U, U, U, U, U, U, U, U, U, U, U, U, U, U, U, U, U, U, U, U, U, U, U, U, U, U, U, U, U, U, U, U], [(.blk 10 [(c_GEdit a2873)])]⟩
def f37_L1 (n : Nat) (a2873 : GEdit) : Nat → Int → Option (Unit ⊕ Unit)
 | 0, _ => none
 | m + 1, i2954 => (cnd (decide (i2954 < ((a2873.Parts.length : Nat) : Int))) (bnd (idx a2873.Parts i2954) fun x2970 => (bnd (f61 n x2970) fun v2973 => (cnd (v2973) (f37_L1 n a2873 m (IntKind.i64.wrap (i2954 + 1))) (some (Sum.inl ()))))) (some (Sum.inr ())))
theorem f37_L1_ok (n : Nat) (a2873 : GEdit) : ∀ (m : Nat) (i2954 : Int) (r : (Unit ⊕ Unit)), f37_L1 n a2873 m i2954 = some r → maskR [false, true] [false, false, true] false 0 1 (evLoopH (headSt (some [false, true, false, false, true]) false 0 1) (evC PP (evF PP T n) n 0 L37_1) m (f37_L1_S a2873 i2954)) = (match r with | .inl r => some (.ret, f37_L1_E0 a2873) | .inr r => some ((.exit 2), f37_L1_E1 a2873))
 | 0, _, _, h => by cases h
 | m + 1, i2954, r, h => by
  rw [f37_L1] at h
  have g2967 := len_sl (P := PP) (cf := evF PP T n) (fl := 0) (H := [(.blk 10 [(c_GEdit a2873)])]) (f := false) (c := c_i64) (l := a2873.Parts)
  rcases cnd_or h with ⟨h2968, h⟩ | ⟨h2968, h⟩
  rotate_left
  ·have g2978 := bool_eq h2968
   obtain rfl := si h
   exact last_z (live := some [false, true, false, false, true]) (tr' := false) (st' := f37_L1_E1 a2873) ⟨[(82, (iv ((a2873.Parts.length : Nat) : Int)), none), ff 83], []⟩ [] [] rfl (W2 g2978 g2967 Z0) (by kernel_rfl) trivial
  have g2969 := bool_eq h2968
  obtain ⟨x2970, e2971, h⟩ := bnd_some h
  have g2972 := idxl (H := [(.blk 10 [(c_GEdit a2873)])]) (f := false) (c := c_i64) e2971 (c_i64_len _)
  obtain ⟨v2973, e2974, h⟩ := bnd_some h
  rcases cnd_or h with ⟨h2975, h⟩ | ⟨h2975, h⟩
  rotate_left
  ·have g2977 := by have q := f61_ok n x2970 _ e2974; rw [h2975] at q; exact q
   obtain rfl := si h
   exact last_z (live := some [false, true, false, false, true]) (tr' := false) (st' := f37_L1_E0 a2873) ⟨[(82, (iv ((a2873.Parts.length : Nat) : Int)), none), tt 83, (89, (.rptr [(iv x2970)]), none), ff 91], []⟩ [] [] rfl (W4 g2977 g2972 g2969 g2967 Z0) (by kernel_rfl) trivial
  have g2976 := by have q := f61_ok n x2970 _ e2974; rw [h2975] at q; exact q
  exact (congrArg (maskR [false, true] [false, false, true] false 0 1) (next_z (live := some [false, true, false, false, true]) (tr := false) (st' := f37_L1_S a2873 (IntKind.i64.wrap (i2954 + 1))) ⟨[(82, (iv ((a2873.Parts.length : Nat) : Int)), none), tt 83, (89, (.rptr [(iv x2970)]), none), tt 91], []⟩ [] [] rfl (W4 g2976 g2972 g2969 g2967 Z0) (by kernel_rfl) trivial rfl)).trans (f37_L1_ok n a2873 m (IntKind.i64.wrap (i2954 + 1)) r h)
def f37 : Nat → GEdit → Option Bool
 | 0, _ => none
 | n + 1, a2873 => (bnd (f61 n a2873.ID) fun v2874 => (cnd (v2874) (cnd (a2873.Kind == 4) (bnd (f61 n a2873.A) fun v2880 => (cnd (v2880) (bnd (f61 n a2873.B) fun v2884 => (cnd (v2884) (cnd (decide (a2873.C < (-1073741824))) (some false) (cnd (decide (a2873.C > 1073741824)) (some false) (bnd2 (f37_L0 n a2873 n 0) (fun v2940 => (some false)) (fun v2941 => (bnd2 (f37_L1 n a2873 n 0) (fun v2982 => (some false)) (fun v2983 => (bnd (f62 n a2873.At) fun v2984 => (cnd (v2984) (some true) (some false))))))))) (some false))) (some false))) (cnd (a2873.Kind == 12) (bnd (f61 n a2873.A) fun v2994 => (cnd (v2994) (cnd (decide (a2873.C < (-1073741824))) (some false) (cnd (decide (a2873.C > 1073741824)) (some false) (bnd2 (f37_L0 n a2873 n 0) (fun v3036 => (some false)) (fun v3037 => (bnd2 (f37_L1 n a2873 n 0) (fun v3066 => (some false)) (fun v3067 => (bnd (f62 n a2873.At) fun v3068 => (cnd (v3068) (some true) (some false))))))))) (some false))) (cnd (decide (a2873.C < (-1073741824))) (some false) (cnd (decide (a2873.C > 1073741824)) (some false) (cnd (a2873.Kind == 7) (cnd (decide (a2873.B < 1)) (some false) (cnd (decide (a2873.B > 9)) (some false) (bnd2 (f37_L0 n a2873 n 0) (fun v3117 => (some false)) (fun v3118 => (bnd2 (f37_L1 n a2873 n 0) (fun v3147 => (some false)) (fun v3148 => (bnd (f62 n a2873.At) fun v3149 => (cnd (v3149) (some true) (some false))))))))) (cnd (a2873.Kind == 10) (cnd (decide (a2873.B < 1)) (some false) (cnd (decide (a2873.B > 9)) (some false) (bnd2 (f37_L0 n a2873 n 0) (fun v3191 => (some false)) (fun v3192 => (bnd2 (f37_L1 n a2873 n 0) (fun v3221 => (some false)) (fun v3222 => (bnd (f62 n a2873.At) fun v3223 => (cnd (v3223) (some true) (some false))))))))) (bnd2 (f37_L0 n a2873 n 0) (fun v3257 => (some false)) (fun v3258 => (bnd2 (f37_L1 n a2873 n 0) (fun v3287 => (some false)) (fun v3288 => (bnd (f62 n a2873.At) fun v3289 => (cnd (v3289) (some true) (some false))))))))))))) (some false)))
end Go.Proofs.YtmflphfmefakfaaGreatDoor.Av
