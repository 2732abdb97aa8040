/- A part of the proof of EditChecksCardSaid. -/
import Derived.Test.YtmflphfmefakfaaGreatDoorVeTl0
set_option linter.all false
namespace Go.Proofs.YtmflphfmefakfaaGreatDoor.Av
open Go
set_option linter.unusedVariables false
set_option linter.unusedSimpArgs false
theorem f1_ok (n : Nat) (a1769 : GEdit) (r : Int) (h : f1 n a1769 = some r) : pv PP T n 1 [(.agg (c_GEdit a1769))] = some (iv r) := by
 cases n with
 | zero => cases h
 | succ n =>
  rw [f1] at h
  rcases cnd_or h with ⟨h1770, h⟩ | ⟨h1770, h⟩
  ·have g1771 := bool_eq h1770
   cases h
   exact pz F1 ⟨[tt 6], []⟩ (Z g1771 Z0)
  have g1772 := bool_eq h1770
  rcases cnd_or h with ⟨h1773, h⟩ | ⟨h1773, h⟩
  ·have g1774 := bool_eq h1773
   cases h
   exact pz F1 ⟨[ff 6, tt 10], []⟩ (W2 g1774 g1772 Z0)
  have g1775 := bool_eq h1773
  rcases cnd_or h with ⟨h1776, h⟩ | ⟨h1776, h⟩
  rotate_left
  ·have g1816 := bool_eq h1776
   obtain ⟨v1817, e1818, h⟩ := bnd_some h
   rcases cnd_or h with ⟨h1819, h⟩ | ⟨h1819, h⟩
   ·have g1820 := by have q := f5_ok n a1769 _ e1818; rw [h1819] at q; exact q
    cases h
    exact pz F1 ⟨[ff 6, ff 10, ff 15, tt 24], []⟩ (W4 g1820 g1816 g1775 g1772 Z0)
   have g1821 := by have q := f5_ok n a1769 _ e1818; rw [h1819] at q; exact q
   have g1822 := len_sl (P := PP) (cf := evF PP T n) (fl := 0) (H := [(.blk 10 [(c_GEdit a1769)])]) (f := false) (c := c_GPoint) (l := a1769.Via)
   rcases cnd_or h with ⟨h1823, h⟩ | ⟨h1823, h⟩
   ·have g1824 := bool_eq h1823
    cases h
    exact pz F1 ⟨[ff 6, ff 10, ff 15, ff 24, (28, (iv ((a1769.Via.length : Nat) : Int)), none), tt 29], []⟩ (W4 g1824 g1822 g1821 g1816 <| W2 g1775 g1772 Z0)
   have g1825 := bool_eq h1823
   have g1826 := len_sl (P := PP) (cf := evF PP T n) (fl := 0) (H := [(.blk 10 [(c_GEdit a1769)])]) (f := false) (c := c_i64) (l := a1769.Parts)
   rcases cnd_or h with ⟨h1827, h⟩ | ⟨h1827, h⟩
   ·have g1828 := bool_eq h1827
    cases h
    exact pz F1 ⟨[ff 6, ff 10, ff 15, ff 24, (28, (iv ((a1769.Via.length : Nat) : Int)), none), ff 29, (33, (iv ((a1769.Parts.length : Nat) : Int)), none), tt 34], []⟩ (W8 g1828 g1826 g1825 g1822 g1821 g1816 g1775 g1772 Z0)
   have g1829 := bool_eq h1827
   obtain ⟨v1830, e1831, h⟩ := bnd_some h
   rcases cnd_or h with ⟨h1832, h⟩ | ⟨h1832, h⟩
   rotate_left
   ·have g1848 := by have q := f6_ok n a1769 _ e1831; rw [h1832] at q; exact q
    cases h
    exact pz F1 ⟨[ff 6, ff 10, ff 15, ff 24, (28, (iv ((a1769.Via.length : Nat) : Int)), none), ff 29, (33, (iv ((a1769.Parts.length : Nat) : Int)), none), ff 34, ff 38], []⟩ (W8 g1848 g1829 g1826 g1825 g1822 g1821 g1816 g1775 <| Z g1772 Z0)
   have g1833 := by have q := f6_ok n a1769 _ e1831; rw [h1832] at q; exact q
   obtain ⟨v1834, e1835, h⟩ := bnd_some h
   rcases cnd_or h with ⟨h1836, h⟩ | ⟨h1836, h⟩
   rotate_left
   ·have g1847 := by have q := f7_ok n a1769.Parts _ e1835; rw [h1836] at q; exact q
    cases h
    exact pz F1 ⟨[ff 6, ff 10, ff 15, ff 24, (28, (iv ((a1769.Via.length : Nat) : Int)), none), ff 29, (33, (iv ((a1769.Parts.length : Nat) : Int)), none), ff 34, tt 38, ff 43], []⟩ (W8 g1847 g1833 g1829 g1826 g1825 g1822 g1821 g1816 <| W2 g1775 g1772 Z0)
   have g1837 := by have q := f7_ok n a1769.Parts _ e1835; rw [h1836] at q; exact q
   rcases cnd_or h with ⟨h1838, h⟩ | ⟨h1838, h⟩
   ·have g1839 := c_str_neq (P := PP) (cf := evF PP T n) (fl := 0) (H := [(.blk 10 [(c_GEdit a1769)])]) (t := 9) h1838
    cases h
    exact pz F1 ⟨[ff 6, ff 10, ff 15, ff 24, (28, (iv ((a1769.Via.length : Nat) : Int)), none), ff 29, (33, (iv ((a1769.Parts.length : Nat) : Int)), none), ff 34, tt 38, tt 43, ff 48], []⟩ (W8 g1839 g1837 g1833 g1829 g1826 g1825 g1822 g1821 <| W2 g1816 g1775 <| Z g1772 Z0)
   have g1840 := c_str_neq (P := PP) (cf := evF PP T n) (fl := 0) (H := [(.blk 10 [(c_GEdit a1769)])]) (t := 9) h1838
   obtain ⟨v1841, e1842, h⟩ := bnd_some h
   have g1843 := f8_ok n a1769.Name _ e1842
   rcases cnd_or h with ⟨h1844, h⟩ | ⟨h1844, h⟩
   ·have g1845 := bool_eq h1844
    cases h
    exact pz F1 ⟨[ff 6, ff 10, ff 15, ff 24, (28, (iv ((a1769.Via.length : Nat) : Int)), none), ff 29, (33, (iv ((a1769.Parts.length : Nat) : Int)), none), ff 34, tt 38, tt 43, tt 48, (52, (iv v1841), none), tt 53], []⟩ (W8 g1845 g1843 g1840 g1837 g1833 g1829 g1826 g1825 <| W4 g1822 g1821 g1816 g1775 <| Z g1772 Z0)
   have g1846 := bool_eq h1844
   cases h
   exact pz F1 ⟨[ff 6, ff 10, ff 15, ff 24, (28, (iv ((a1769.Via.length : Nat) : Int)), none), ff 29, (33, (iv ((a1769.Parts.length : Nat) : Int)), none), ff 34, tt 38, tt 43, tt 48, (52, (iv v1841), none), ff 53], []⟩ (W8 g1846 g1843 g1840 g1837 g1833 g1829 g1826 g1825 <| W4 g1822 g1821 g1816 g1775 <| Z g1772 Z0)
  have g1777 := bool_eq h1776
  obtain ⟨v1778, e1779, h⟩ := bnd_some h
  have g1780 := f4_ok n a1769.A _ e1779
  rcases cnd_or h with ⟨h1781, h⟩ | ⟨h1781, h⟩
  ·have g1782 := bool_eq h1781
   cases h
   exact pz F1 ⟨[ff 6, ff 10, tt 15, (19, (iv v1778), none), tt 20], []⟩ (W4 g1782 g1780 g1777 g1775 <| Z g1772 Z0)
  have g1783 := bool_eq h1781
  obtain ⟨v1784, e1785, h⟩ := bnd_some h
  rcases cnd_or h with ⟨h1786, h⟩ | ⟨h1786, h⟩
  ·have g1787 := by have q := f5_ok n a1769 _ e1785; rw [h1786] at q; exact q
   cases h
   exact pz F1 ⟨[ff 6, ff 10, tt 15, (19, (iv v1778), none), ff 20, tt 24], []⟩ (W4 g1787 g1783 g1780 g1777 <| W2 g1775 g1772 Z0)
  have g1788 := by have q := f5_ok n a1769 _ e1785; rw [h1786] at q; exact q
  have g1789 := len_sl (P := PP) (cf := evF PP T n) (fl := 0) (H := [(.blk 10 [(c_GEdit a1769)])]) (f := false) (c := c_GPoint) (l := a1769.Via)
  rcases cnd_or h with ⟨h1790, h⟩ | ⟨h1790, h⟩
  ·have g1791 := bool_eq h1790
   cases h
   exact pz F1 ⟨[ff 6, ff 10, tt 15, (19, (iv v1778), none), ff 20, ff 24, (28, (iv ((a1769.Via.length : Nat) : Int)), none), tt 29], []⟩ (W8 g1791 g1789 g1788 g1783 g1780 g1777 g1775 g1772 Z0)
  have g1792 := bool_eq h1790
  have g1793 := len_sl (P := PP) (cf := evF PP T n) (fl := 0) (H := [(.blk 10 [(c_GEdit a1769)])]) (f := false) (c := c_i64) (l := a1769.Parts)
  rcases cnd_or h with ⟨h1794, h⟩ | ⟨h1794, h⟩
  ·have g1795 := bool_eq h1794
   cases h
   exact pz F1 ⟨[ff 6, ff 10, tt 15, (19, (iv v1778), none), ff 20, ff 24, (28, (iv ((a1769.Via.length : Nat) : Int)), none), ff 29, (33, (iv ((a1769.Parts.length : Nat) : Int)), none), tt 34], []⟩ (W8 g1795 g1793 g1792 g1789 g1788 g1783 g1780 g1777 <| W2 g1775 g1772 Z0)
  have g1796 := bool_eq h1794
  obtain ⟨v1797, e1798, h⟩ := bnd_some h
  rcases cnd_or h with ⟨h1799, h⟩ | ⟨h1799, h⟩
  rotate_left
  ·have g1815 := by have q := f6_ok n a1769 _ e1798; rw [h1799] at q; exact q
   cases h
   exact pz F1 ⟨[ff 6, ff 10, tt 15, (19, (iv v1778), none), ff 20, ff 24, (28, (iv ((a1769.Via.length : Nat) : Int)), none), ff 29, (33, (iv ((a1769.Parts.length : Nat) : Int)), none), ff 34, ff 38], []⟩ (W8 g1815 g1796 g1793 g1792 g1789 g1788 g1783 g1780 <| W2 g1777 g1775 <| Z g1772 Z0)
  have g1800 := by have q := f6_ok n a1769 _ e1798; rw [h1799] at q; exact q
  obtain ⟨v1801, e1802, h⟩ := bnd_some h
  rcases cnd_or h with ⟨h1803, h⟩ | ⟨h1803, h⟩
  rotate_left
  ·have g1814 := by have q := f7_ok n a1769.Parts _ e1802; rw [h1803] at q; exact q
   cases h
   exact pz F1 ⟨[ff 6, ff 10, tt 15, (19, (iv v1778), none), ff 20, ff 24, (28, (iv ((a1769.Via.length : Nat) : Int)), none), ff 29, (33, (iv ((a1769.Parts.length : Nat) : Int)), none), ff 34, tt 38, ff 43], []⟩ (W8 g1814 g1800 g1796 g1793 g1792 g1789 g1788 g1783 <| W4 g1780 g1777 g1775 g1772 Z0)
  have g1804 := by have q := f7_ok n a1769.Parts _ e1802; rw [h1803] at q; exact q
  rcases cnd_or h with ⟨h1805, h⟩ | ⟨h1805, h⟩
  ·have g1806 := c_str_neq (P := PP) (cf := evF PP T n) (fl := 0) (H := [(.blk 10 [(c_GEdit a1769)])]) (t := 9) h1805
   cases h
   exact pz F1 ⟨[ff 6, ff 10, tt 15, (19, (iv v1778), none), ff 20, ff 24, (28, (iv ((a1769.Via.length : Nat) : Int)), none), ff 29, (33, (iv ((a1769.Parts.length : Nat) : Int)), none), ff 34, tt 38, tt 43, ff 48], []⟩ (W8 g1806 g1804 g1800 g1796 g1793 g1792 g1789 g1788 <| W4 g1783 g1780 g1777 g1775 <| Z g1772 Z0)
  have g1807 := c_str_neq (P := PP) (cf := evF PP T n) (fl := 0) (H := [(.blk 10 [(c_GEdit a1769)])]) (t := 9) h1805
  obtain ⟨v1808, e1809, h⟩ := bnd_some h
  have g1810 := f8_ok n a1769.Name _ e1809
  rcases cnd_or h with ⟨h1811, h⟩ | ⟨h1811, h⟩
  ·have g1812 := bool_eq h1811
   cases h
   exact pz F1 ⟨[ff 6, ff 10, tt 15, (19, (iv v1778), none), ff 20, ff 24, (28, (iv ((a1769.Via.length : Nat) : Int)), none), ff 29, (33, (iv ((a1769.Parts.length : Nat) : Int)), none), ff 34, tt 38, tt 43, tt 48, (52, (iv v1808), none), tt 53], []⟩ (W8 g1812 g1810 g1807 g1804 g1800 g1796 g1793 g1792 <| W4 g1789 g1788 g1783 g1780 <| W2 g1777 g1775 <| Z g1772 Z0)
  have g1813 := bool_eq h1811
  cases h
  exact pz F1 ⟨[ff 6, ff 10, tt 15, (19, (iv v1778), none), ff 20, ff 24, (28, (iv ((a1769.Via.length : Nat) : Int)), none), ff 29, (33, (iv ((a1769.Parts.length : Nat) : Int)), none), ff 34, tt 38, tt 43, tt 48, (52, (iv v1808), none), ff 53], []⟩ (W8 g1813 g1810 g1807 g1804 g1800 g1796 g1793 g1792 <| W4 g1789 g1788 g1783 g1780 <| W2 g1777 g1775 <| Z g1772 Z0)
def f9 : Nat → Int → Option Int
 | 0, _ => none
 | n + 1, a1849 => (cnd (a1849 == 1) (some 1) (cnd (a1849 == 2) (some 1) (cnd (a1849 == 8) (some 1) (cnd (a1849 == 3) (some 2) (cnd (a1849 == 4) (some 2) (cnd (a1849 == 5) (some 3) (cnd (a1849 == 6) (some 3) (cnd (a1849 == 7) (some 3) (some 0)))))))))
theorem f9_ok (n : Nat) (a1849 : Int) (r : Int) (h : f9 n a1849 = some r) : pv PP T n 9 [(iv a1849)] = some (iv r) := by
 cases n with
 | zero => cases h
 | succ n =>
  rw [f9] at h
  rcases cnd_or h with ⟨h1850, h⟩ | ⟨h1850, h⟩
  ·have g1851 := bool_eq h1850
   cases h
   exact pz F9 ⟨[tt 5], []⟩ (Z g1851 Z0)
  have g1852 := bool_eq h1850
  rcases cnd_or h with ⟨h1853, h⟩ | ⟨h1853, h⟩
  ·have g1854 := bool_eq h1853
   cases h
   exact pz F9 ⟨[ff 5, tt 6], []⟩ (W2 g1854 g1852 Z0)
  have g1855 := bool_eq h1853
  rcases cnd_or h with ⟨h1856, h⟩ | ⟨h1856, h⟩
  ·have g1857 := bool_eq h1856
   cases h
   exact pz F9 ⟨[ff 5, ff 6, tt 7], []⟩ (W2 g1857 g1855 <| Z g1852 Z0)
  have g1858 := bool_eq h1856
  rcases cnd_or h with ⟨h1859, h⟩ | ⟨h1859, h⟩
  ·have g1860 := bool_eq h1859
   cases h
   exact pz F9 ⟨[ff 5, ff 6, ff 7, tt 9], []⟩ (W4 g1860 g1858 g1855 g1852 Z0)
  have g1861 := bool_eq h1859
  rcases cnd_or h with ⟨h1862, h⟩ | ⟨h1862, h⟩
  ·have g1863 := bool_eq h1862
   cases h
   exact pz F9 ⟨[ff 5, ff 6, ff 7, ff 9, tt 10], []⟩ (W4 g1863 g1861 g1858 g1855 <| Z g1852 Z0)
  have g1864 := bool_eq h1862
  rcases cnd_or h with ⟨h1865, h⟩ | ⟨h1865, h⟩
  ·have g1866 := bool_eq h1865
   cases h
   exact pz F9 ⟨[ff 5, ff 6, ff 7, ff 9, ff 10, tt 12], []⟩ (W4 g1866 g1864 g1861 g1858 <| W2 g1855 g1852 Z0)
  have g1867 := bool_eq h1865
  rcases cnd_or h with ⟨h1868, h⟩ | ⟨h1868, h⟩
  ·have g1869 := bool_eq h1868
   cases h
   exact pz F9 ⟨[ff 5, ff 6, ff 7, ff 9, ff 10, ff 12, tt 13], []⟩ (W4 g1869 g1867 g1864 g1861 <| W2 g1858 g1855 <| Z g1852 Z0)
  have g1870 := bool_eq h1868
  rcases cnd_or h with ⟨h1871, h⟩ | ⟨h1871, h⟩
  ·have g1872 := bool_eq h1871
   cases h
   exact pz F9 ⟨[ff 5, ff 6, ff 7, ff 9, ff 10, ff 12, ff 13, tt 14], []⟩ (W8 g1872 g1870 g1867 g1864 g1861 g1858 g1855 g1852 Z0)
  have g1873 := bool_eq h1871
  cases h
  exact pz F9 ⟨[ff 5, ff 6, ff 7, ff 9, ff 10, ff 12, ff 13, ff 14], []⟩ (W8 g1873 g1870 g1867 g1864 g1861 g1858 g1855 g1852 Z0)
def f10 : Nat → Int → Option ByteArray
 | 0, _ => none
 | n + 1, a1874 => (cnd (a1874 == 1) (some ⟨#[116]⟩) (cnd (a1874 == 3) (some ⟨#[116]⟩) (cnd (a1874 == 4) (some ⟨#[97, 98, 99, 118]⟩) (cnd (a1874 == 6) (some ⟨#[118]⟩) (cnd (a1874 == 7) (some ⟨#[97, 98, 110, 112]⟩) (cnd (a1874 == 9) (some ⟨#[110]⟩) (cnd (a1874 == 10) (some ⟨#[98]⟩) (cnd (a1874 == 11) (some ⟨#[112]⟩) (cnd (a1874 == 12) (some ⟨#[97]⟩) (some ⟨#[]⟩))))))))))
theorem f10_ok (n : Nat) (a1874 : Int) (r : ByteArray) (h : f10 n a1874 = some r) : pv PP T n 10 [(iv a1874)] = some (sv r) := by
 cases n with
 | zero => cases h
 | succ n =>
  rw [f10] at h
  rcases cnd_or h with ⟨h1875, h⟩ | ⟨h1875, h⟩
  ·have g1876 := bool_eq h1875
   cases h
   exact pz F10 ⟨[tt 5], []⟩ (Z g1876 Z0)
  have g1877 := bool_eq h1875
  rcases cnd_or h with ⟨h1878, h⟩ | ⟨h1878, h⟩
  ·have g1879 := bool_eq h1878
   cases h
   exact pz F10 ⟨[ff 5, tt 6], []⟩ (W2 g1879 g1877 Z0)
  have g1880 := bool_eq h1878
  rcases cnd_or h with ⟨h1881, h⟩ | ⟨h1881, h⟩
  ·have g1882 := bool_eq h1881
   cases h
   exact pz F10 ⟨[ff 5, ff 6, tt 8], []⟩ (W2 g1882 g1880 <| Z g1877 Z0)
  have g1883 := bool_eq h1881
  rcases cnd_or h with ⟨h1884, h⟩ | ⟨h1884, h⟩
  ·have g1885 := bool_eq h1884
   cases h
   exact pz F10 ⟨[ff 5, ff 6, ff 8, tt 10], []⟩ (W4 g1885 g1883 g1880 g1877 Z0)
  have g1886 := bool_eq h1884
  rcases cnd_or h with ⟨h1887, h⟩ | ⟨h1887, h⟩
  ·have g1888 := bool_eq h1887
   cases h
   exact pz F10 ⟨[ff 5, ff 6, ff 8, ff 10, tt 12], []⟩ (W4 g1888 g1886 g1883 g1880 <| Z g1877 Z0)
  have g1889 := bool_eq h1887
  rcases cnd_or h with ⟨h1890, h⟩ | ⟨h1890, h⟩
  ·have g1891 := bool_eq h1890
   cases h
   exact pz F10 ⟨[ff 5, ff 6, ff 8, ff 10, ff 12, tt 14], []⟩ (W4 g1891 g1889 g1886 g1883 <| W2 g1880 g1877 Z0)
  have g1892 := bool_eq h1890
  rcases cnd_or h with ⟨h1893, h⟩ | ⟨h1893, h⟩
  ·have g1894 := bool_eq h1893
   cases h
   exact pz F10 ⟨[ff 5, ff 6, ff 8, ff 10, ff 12, ff 14, tt 16], []⟩ (W4 g1894 g1892 g1889 g1886 <| W2 g1883 g1880 <| Z g1877 Z0)
  have g1895 := bool_eq h1893
  rcases cnd_or h with ⟨h1896, h⟩ | ⟨h1896, h⟩
  ·have g1897 := bool_eq h1896
   cases h
   exact pz F10 ⟨[ff 5, ff 6, ff 8, ff 10, ff 12, ff 14, ff 16, tt 18], []⟩ (W8 g1897 g1895 g1892 g1889 g1886 g1883 g1880 g1877 Z0)
  have g1898 := bool_eq h1896
  rcases cnd_or h with ⟨h1899, h⟩ | ⟨h1899, h⟩
  ·have g1900 := bool_eq h1899
   cases h
   exact pz F10 ⟨[ff 5, ff 6, ff 8, ff 10, ff 12, ff 14, ff 16, ff 18, tt 20], []⟩ (W8 g1900 g1898 g1895 g1892 g1889 g1886 g1883 g1880 <| Z g1877 Z0)
  have g1901 := bool_eq h1899
  cases h
  exact pz F10 ⟨[ff 5, ff 6, ff 8, ff 10, ff 12, ff 14, ff 16, ff 18, ff 20], []⟩ (W8 g1901 g1898 g1895 g1892 g1889 g1886 g1883 g1880 <| Z g1877 Z0)
def f11_0 : Nat → GEdit → Option Bool
 | 0, _ => none
 | n + 1, a1902 => (bnd (prdk 1 n) fun n1903 => (cnd (decide (a1902.At = (GPoint.mk 0 0))) (cnd (a1902.A != 0) (some false) (cnd (a1902.B != 0) (some false) (cnd (a1902.C != 0) (some false) (cnd (((a1902.Via.length : Nat) : Int) == 0) (cnd (decide (a1902.Name = (⟨#[]⟩ : ByteArray))) (cnd (((a1902.Parts.length : Nat) : Int) == 0) (some true) (some false)) (some false)) (some false))))) (some false)))
theorem f11_0_ok (n : Nat) (a1902 : GEdit) (r : Bool) (h : f11_0 n a1902 = some r) : pv PP T n 11 [(.agg (c_GEdit a1902)), (sv (⟨#[]⟩))] = some (bv r) := by
 cases n with
 | zero => cases h
 | succ n =>
  rw [f11_0] at h
  obtain ⟨n1903, e1904, h⟩ := bnd_some h
  have q1905 := prdk_eq e1904
  have g1906 : cleanQ false 0 1 [(.blk 10 [(c_GEdit a1902)])] := trivial
  have g1907 : maskR [false, false, true, false, false, true, true, true, true, true, true, true] [false, false, false, false, true] false 0 1 (evLoopH (headSt (some [false, true, true, false, false, true, true, true, true, true, true, true, true]) false 0 1) (evC PP (evF PP T n) n 0 L11_0) n ⟨[U, (sv (⟨#[]⟩)), (.ptr 0 1 0 0), U, U, bf, bf, bf, bf, bf, bf, bf, (iv 0), U, U, U, U, U, U, U, U, U, U, U, U, U, U, U, U, U, U, U, U, U, U, U, U, U, U, U, U, U, U, U, U, U, U, U, U, U, U, U, U, U, U, U, U, U, U, U, U, U, U, U, U, U, U, U, U, U, U, U, U, U, U, U, U, U, U, U, U, U, U, U, U, U, U, U, U, U, U, U, U, U, U], [(.blk 10 [(c_GEdit a1902)])]⟩) = some ((.exit 0), ⟨[U, U, (.ptr 0 1 0 0), U, U, bf, bf, bf, bf, bf, bf, bf, U, U, U, U, U, U, U, U, U, U, U, U, U, U, U, U, U, U, U, U, U, U, U, U, U, U, U, U, U, U, U, U, U, U, U, U, U, U, U, U, U, U, U, U, U, U, U, U, U, U, U, U, U, U, U, U, U, U, U, U, U, U, U, U, U, U, U, U, U, U, U, U, U, U, U, U, U, U, U, U, U, U, U], [(.blk 10 [(c_GEdit a1902)])]⟩) := by rw [q1905]; kernel_rfl
  rcases cnd_or h with ⟨h1908, h⟩ | ⟨h1908, h⟩
  rotate_left
  ·have g1930 := c_GPoint_neq (cf := evF PP T n) (fl := 0) (H := [(.blk 10 [(c_GEdit a1902)])]) (a := a1902.At) (b := (GPoint.mk 0 0)) h1908
   cases h
   exact pv_z (F := F11) ⟨[tt 42], []⟩ [((.exit 0), ⟨[U, U, (.ptr 0 1 0 0), U, U, bf, bf, bf, bf, bf, bf, bf, U, U, U, U, U, U, U, U, U, U, U, U, U, U, U, U, U, U, U, U, U, U, U, U, U, U, U, U, U, U, U, U, U, U, U, U, U, U, U, U, U, U, U, U, U, U, U, U, U, U, U, U, U, U, U, U, U, U, U, U, U, U, U, U, U, U, U, U, U, U, U, U, U, U, U, U, U, U, U, U, U, U, U], [(.blk 10 [(c_GEdit a1902)])]⟩)] [] rfl (W2 g1930 g1907 <| Z g1906 Z0) (by kernel_rfl)
  have g1909 := c_GPoint_neq (cf := evF PP T n) (fl := 0) (H := [(.blk 10 [(c_GEdit a1902)])]) (a := a1902.At) (b := (GPoint.mk 0 0)) h1908
  rcases cnd_or h with ⟨h1910, h⟩ | ⟨h1910, h⟩
  ·have g1911 := bool_eq h1910
   cases h
   exact pv_z (F := F11) ⟨[ff 42, tt 50], []⟩ [((.exit 0), ⟨[U, U, (.ptr 0 1 0 0), U, U, bf, bf, bf, bf, bf, bf, bf, U, U, U, U, U, U, U, U, U, U, U, U, U, U, U, U, U, U, U, U, U, U, U, U, U, U, U, U, U, U, U, U, U, U, U, U, U, U, U, U, U, U, U, U, U, U, U, U, U, U, U, U, U, U, U, U, U, U, U, U, U, U, U, U, U, U, U, U, U, U, U, U, U, U, U, U, U, U, U, U, U, U, U], [(.blk 10 [(c_GEdit a1902)])]⟩)] [] rfl (W4 g1911 g1909 g1907 g1906 Z0) (by kernel_rfl)
  have g1912 := bool_eq h1910
  rcases cnd_or h with ⟨h1913, h⟩ | ⟨h1913, h⟩
  ·have g1914 := bool_eq h1913
   cases h
   exact pv_z (F := F11) ⟨[ff 42, ff 50, tt 59], []⟩ [((.exit 0), ⟨[U, U, (.ptr 0 1 0 0), U, U, bf, bf, bf, bf, bf, bf, bf, U, U, U, U, U, U, U, U, U, U, U, U, U, U, U, U, U, U, U, U, U, U, U, U, U, U, U, U, U, U, U, U, U, U, U, U, U, U, U, U, U, U, U, U, U, U, U, U, U, U, U, U, U, U, U, U, U, U, U, U, U, U, U, U, U, U, U, U, U, U, U, U, U, U, U, U, U, U, U, U, U, U, U], [(.blk 10 [(c_GEdit a1902)])]⟩)] [] rfl (W4 g1914 g1912 g1909 g1907 <| Z g1906 Z0) (by kernel_rfl)
  have g1915 := bool_eq h1913
  rcases cnd_or h with ⟨h1916, h⟩ | ⟨h1916, h⟩
  ·have g1917 := bool_eq h1916
   cases h
   exact pv_z (F := F11) ⟨[ff 42, ff 50, ff 59, tt 68], []⟩ [((.exit 0), ⟨[U, U, (.ptr 0 1 0 0), U, U, bf, bf, bf, bf, bf, bf, bf, U, U, U, U, U, U, U, U, U, U, U, U, U, U, U, U, U, U, U, U, U, U, U, U, U, U, U, U, U, U, U, U, U, U, U, U, U, U, U, U, U, U, U, U, U, U, U, U, U, U, U, U, U, U, U, U, U, U, U, U, U, U, U, U, U, U, U, U, U, U, U, U, U, U, U, U, U, U, U, U, U, U, U], [(.blk 10 [(c_GEdit a1902)])]⟩)] [] rfl (W4 g1917 g1915 g1912 g1909 <| W2 g1907 g1906 Z0) (by kernel_rfl)
  have g1918 := bool_eq h1916
  have g1919 := len_sl (P := PP) (cf := evF PP T n) (fl := 0) (H := [(.blk 10 [(c_GEdit a1902)])]) (f := false) (c := c_GPoint) (l := a1902.Via)
  rcases cnd_or h with ⟨h1920, h⟩ | ⟨h1920, h⟩
  rotate_left
  ·have g1929 := bool_eq h1920
   cases h
   exact pv_z (F := F11) ⟨[ff 42, ff 50, ff 59, ff 68, (75, (iv ((a1902.Via.length : Nat) : Int)), none), ff 76], []⟩ [((.exit 0), ⟨[U, U, (.ptr 0 1 0 0), U, U, bf, bf, bf, bf, bf, bf, bf, U, U, U, U, U, U, U, U, U, U, U, U, U, U, U, U, U, U, U, U, U, U, U, U, U, U, U, U, U, U, U, U, U, U, U, U, U, U, U, U, U, U, U, U, U, U, U, U, U, U, U, U, U, U, U, U, U, U, U, U, U, U, U, U, U, U, U, U, U, U, U, U, U, U, U, U, U, U, U, U, U, U, U], [(.blk 10 [(c_GEdit a1902)])]⟩)] [] rfl (W8 g1929 g1919 g1918 g1915 g1912 g1909 g1907 g1906 Z0) (by kernel_rfl)
  have g1921 := bool_eq h1920
  rcases cnd_or h with ⟨h1922, h⟩ | ⟨h1922, h⟩
  rotate_left
  ·have g1928 := c_str_eql (P := PP) (cf := evF PP T n) (fl := 0) (H := [(.blk 10 [(c_GEdit a1902)])]) (t := 9) h1922
   cases h
   exact pv_z (F := F11) ⟨[ff 42, ff 50, ff 59, ff 68, (75, (iv ((a1902.Via.length : Nat) : Int)), none), tt 76, ff 83], []⟩ [((.exit 0), ⟨[U, U, (.ptr 0 1 0 0), U, U, bf, bf, bf, bf, bf, bf, bf, U, U, U, U, U, U, U, U, U, U, U, U, U, U, U, U, U, U, U, U, U, U, U, U, U, U, U, U, U, U, U, U, U, U, U, U, U, U, U, U, U, U, U, U, U, U, U, U, U, U, U, U, U, U, U, U, U, U, U, U, U, U, U, U, U, U, U, U, U, U, U, U, U, U, U, U, U, U, U, U, U, U, U], [(.blk 10 [(c_GEdit a1902)])]⟩)] [] rfl (W8 g1928 g1921 g1919 g1918 g1915 g1912 g1909 g1907 <| Z g1906 Z0) (by kernel_rfl)
  have g1923 := c_str_eql (P := PP) (cf := evF PP T n) (fl := 0) (H := [(.blk 10 [(c_GEdit a1902)])]) (t := 9) h1922
  have g1924 := len_sl (P := PP) (cf := evF PP T n) (fl := 0) (H := [(.blk 10 [(c_GEdit a1902)])]) (f := false) (c := c_i64) (l := a1902.Parts)
  rcases cnd_or h with ⟨h1925, h⟩ | ⟨h1925, h⟩
  ·have g1926 := bool_eq h1925
   cases h
   exact pv_z (F := F11) ⟨[ff 42, ff 50, ff 59, ff 68, (75, (iv ((a1902.Via.length : Nat) : Int)), none), tt 76, tt 83, (91, (iv ((a1902.Parts.length : Nat) : Int)), none), tt 92], []⟩ [((.exit 0), ⟨[U, U, (.ptr 0 1 0 0), U, U, bf, bf, bf, bf, bf, bf, bf, U, U, U, U, U, U, U, U, U, U, U, U, U, U, U, U, U, U, U, U, U, U, U, U, U, U, U, U, U, U, U, U, U, U, U, U, U, U, U, U, U, U, U, U, U, U, U, U, U, U, U, U, U, U, U, U, U, U, U, U, U, U, U, U, U, U, U, U, U, U, U, U, U, U, U, U, U, U, U, U, U, U, U], [(.blk 10 [(c_GEdit a1902)])]⟩)] [] rfl (W8 g1926 g1924 g1923 g1921 g1919 g1918 g1915 g1912 <| W2 g1909 g1907 <| Z g1906 Z0) (by kernel_rfl)
  have g1927 := bool_eq h1925
  cases h
  exact pv_z (F := F11) ⟨[ff 42, ff 50, ff 59, ff 68, (75, (iv ((a1902.Via.length : Nat) : Int)), none), tt 76, tt 83, (91, (iv ((a1902.Parts.length : Nat) : Int)), none), ff 92], []⟩ [((.exit 0), ⟨[U, U, (.ptr 0 1 0 0), U, U, bf, bf, bf, bf, bf, bf, bf, U, U, U, U, U, U, U, U, U, U, U, U, U, U, U, U, U, U, U, U, U, U, U, U, U, U, U, U, U, U, U, U, U, U, U, U, U, U, U, U, U, U, U, U, U, U, U, U, U, U, U, U, U, U, U, U, U, U, U, U, U, U, U, U, U, U, U, U, U, U, U, U, U, U, U, U, U, U, U, U, U, U, U], [(.blk 10 [(c_GEdit a1902)])]⟩)] [] rfl (W8 g1927 g1924 g1923 g1921 g1919 g1918 g1915 g1912 <| W2 g1909 g1907 <| Z g1906 Z0) (by kernel_rfl)
def f11_1 : Nat → GEdit → Option Bool
 | 0, _ => none
 | n + 1, a1931 => (bnd (prdk 2 n) fun n1932 => (cnd (a1931.A != 0) (some false) (cnd (a1931.B != 0) (some false) (cnd (a1931.C != 0) (some false) (cnd (((a1931.Via.length : Nat) : Int) == 0) (cnd (decide (a1931.Name = (⟨#[]⟩ : ByteArray))) (cnd (((a1931.Parts.length : Nat) : Int) == 0) (some true) (some false)) (some false)) (some false))))))
theorem f11_1_ok (n : Nat) (a1931 : GEdit) (r : Bool) (h : f11_1 n a1931 = some r) : pv PP T n 11 [(.agg (c_GEdit a1931)), (sv (⟨#[116]⟩))] = some (bv r) := by
 cases n with
 | zero => cases h
 | succ n =>
  rw [f11_1] at h
  obtain ⟨n1932, e1933, h⟩ := bnd_some h
  have q1934 := prdk_eq e1933
  have g1935 : cleanQ false 0 1 [(.blk 10 [(c_GEdit a1931)])] := trivial
  have g1936 : maskR [false, false, true, false, false, true, true, true, true, true, true, true] [false, false, false, false, true] false 0 1 (evLoopH (headSt (some [false, true, true, false, false, true, true, true, true, true, true, true, true]) false 0 1) (evC PP (evF PP T n) n 0 L11_0) n ⟨[U, (sv (⟨#[116]⟩)), (.ptr 0 1 0 0), U, U, bf, bf, bf, bf, bf, bf, bf, (iv 0), U, U, U, U, U, U, U, U, U, U, U, U, U, U, U, U, U, U, U, U, U, U, U, U, U, U, U, U, U, U, U, U, U, U, U, U, U, U, U, U, U, U, U, U, U, U, U, U, U, U, U, U, U, U, U, U, U, U, U, U, U, U, U, U, U, U, U, U, U, U, U, U, U, U, U, U, U, U, U, U, U, U], [(.blk 10 [(c_GEdit a1931)])]⟩) = some ((.exit 0), ⟨[U, U, (.ptr 0 1 0 0), U, U, bt, bf, bf, bf, bf, bf, bf, U, U, U, U, U, U, U, U, U, U, U, U, U, U, U, U, U, U, U, U, U, U, U, U, U, U, U, U, U, U, U, U, U, U, U, U, U, U, U, U, U, U, U, U, U, U, U, U, U, U, U, U, U, U, U, U, U, U, U, U, U, U, U, U, U, U, U, U, U, U, U, U, U, U, U, U, U, U, U, U, U, U, U], [(.blk 10 [(c_GEdit a1931)])]⟩) := by rw [q1934]; kernel_rfl
  rcases cnd_or h with ⟨h1937, h⟩ | ⟨h1937, h⟩
  ·have g1938 := bool_eq h1937
   cases h
   exact pv_z (F := F11) ⟨[tt 50], []⟩ [((.exit 0), ⟨[U, U, (.ptr 0 1 0 0), U, U, bt, bf, bf, bf, bf, bf, bf, U, U, U, U, U, U, U, U, U, U, U, U, U, U, U, U, U, U, U, U, U, U, U, U, U, U, U, U, U, U, U, U, U, U, U, U, U, U, U, U, U, U, U, U, U, U, U, U, U, U, U, U, U, U, U, U, U, U, U, U, U, U, U, U, U, U, U, U, U, U, U, U, U, U, U, U, U, U, U, U, U, U, U], [(.blk 10 [(c_GEdit a1931)])]⟩)] [] rfl (W2 g1938 g1936 <| Z g1935 Z0) (by kernel_rfl)
  have g1939 := bool_eq h1937
  rcases cnd_or h with ⟨h1940, h⟩ | ⟨h1940, h⟩
  ·have g1941 := bool_eq h1940
   cases h
   exact pv_z (F := F11) ⟨[ff 50, tt 59], []⟩ [((.exit 0), ⟨[U, U, (.ptr 0 1 0 0), U, U, bt, bf, bf, bf, bf, bf, bf, U, U, U, U, U, U, U, U, U, U, U, U, U, U, U, U, U, U, U, U, U, U, U, U, U, U, U, U, U, U, U, U, U, U, U, U, U, U, U, U, U, U, U, U, U, U, U, U, U, U, U, U, U, U, U, U, U, U, U, U, U, U, U, U, U, U, U, U, U, U, U, U, U, U, U, U, U, U, U, U, U, U, U], [(.blk 10 [(c_GEdit a1931)])]⟩)] [] rfl (W4 g1941 g1939 g1936 g1935 Z0) (by kernel_rfl)
  have g1942 := bool_eq h1940
  rcases cnd_or h with ⟨h1943, h⟩ | ⟨h1943, h⟩
  ·have g1944 := bool_eq h1943
   cases h
   exact pv_z (F := F11) ⟨[ff 50, ff 59, tt 68], []⟩ [((.exit 0), ⟨[U, U, (.ptr 0 1 0 0), U, U, bt, bf, bf, bf, bf, bf, bf, U, U, U, U, U, U, U, U, U, U, U, U, U, U, U, U, U, U, U, U, U, U, U, U, U, U, U, U, U, U, U, U, U, U, U, U, U, U, U, U, U, U, U, U, U, U, U, U, U, U, U, U, U, U, U, U, U, U, U, U, U, U, U, U, U, U, U, U, U, U, U, U, U, U, U, U, U, U, U, U, U, U, U], [(.blk 10 [(c_GEdit a1931)])]⟩)] [] rfl (W4 g1944 g1942 g1939 g1936 <| Z g1935 Z0) (by kernel_rfl)
  have g1945 := bool_eq h1943
  have g1946 := len_sl (P := PP) (cf := evF PP T n) (fl := 0) (H := [(.blk 10 [(c_GEdit a1931)])]) (f := false) (c := c_GPoint) (l := a1931.Via)
  rcases cnd_or h with ⟨h1947, h⟩ | ⟨h1947, h⟩
  rotate_left
  ·have g1956 := bool_eq h1947
   cases h
   exact pv_z (F := F11) ⟨[ff 50, ff 59, ff 68, (75, (iv ((a1931.Via.length : Nat) : Int)), none), ff 76], []⟩ [((.exit 0), ⟨[U, U, (.ptr 0 1 0 0), U, U, bt, bf, bf, bf, bf, bf, bf, U, U, U, U, U, U, U, U, U, U, U, U, U, U, U, U, U, U, U, U, U, U, U, U, U, U, U, U, U, U, U, U, U, U, U, U, U, U, U, U, U, U, U, U, U, U, U, U, U, U, U, U, U, U, U, U, U, U, U, U, U, U, U, U, U, U, U, U, U, U, U, U, U, U, U, U, U, U, U, U, U, U, U], [(.blk 10 [(c_GEdit a1931)])]⟩)] [] rfl (W4 g1956 g1946 g1945 g1942 <| W2 g1939 g1936 <| Z g1935 Z0) (by kernel_rfl)
  have g1948 := bool_eq h1947
  rcases cnd_or h with ⟨h1949, h⟩ | ⟨h1949, h⟩
  rotate_left
  ·have g1955 := c_str_eql (P := PP) (cf := evF PP T n) (fl := 0) (H := [(.blk 10 [(c_GEdit a1931)])]) (t := 9) h1949
   cases h
   exact pv_z (F := F11) ⟨[ff 50, ff 59, ff 68, (75, (iv ((a1931.Via.length : Nat) : Int)), none), tt 76, ff 83], []⟩ [((.exit 0), ⟨[U, U, (.ptr 0 1 0 0), U, U, bt, bf, bf, bf, bf, bf, bf, U, U, U, U, U, U, U, U, U, U, U, U, U, U, U, U, U, U, U, U, U, U, U, U, U, U, U, U, U, U, U, U, U, U, U, U, U, U, U, U, U, U, U, U, U, U, U, U, U, U, U, U, U, U, U, U, U, U, U, U, U, U, U, U, U, U, U, U, U, U, U, U, U, U, U, U, U, U, U, U, U, U, U], [(.blk 10 [(c_GEdit a1931)])]⟩)] [] rfl (W8 g1955 g1948 g1946 g1945 g1942 g1939 g1936 g1935 Z0) (by kernel_rfl)
  have g1950 := c_str_eql (P := PP) (cf := evF PP T n) (fl := 0) (H := [(.blk 10 [(c_GEdit a1931)])]) (t := 9) h1949
  have g1951 := len_sl (P := PP) (cf := evF PP T n) (fl := 0) (H := [(.blk 10 [(c_GEdit a1931)])]) (f := false) (c := c_i64) (l := a1931.Parts)
  rcases cnd_or h with ⟨h1952, h⟩ | ⟨h1952, h⟩
  ·have g1953 := bool_eq h1952
   cases h
   exact pv_z (F := F11) ⟨[ff 50, ff 59, ff 68, (75, (iv ((a1931.Via.length : Nat) : Int)), none), tt 76, tt 83, (91, (iv ((a1931.Parts.length : Nat) : Int)), none), tt 92], []⟩ [((.exit 0), ⟨[U, U, (.ptr 0 1 0 0), U, U, bt, bf, bf, bf, bf, bf, bf, U, U, U, U, U, U, U, U, U, U, U, U, U, U, U, U, U, U, U, U, U, U, U, U, U, U, U, U, U, U, U, U, U, U, U, U, U, U, U, U, U, U, U, U, U, U, U, U, U, U, U, U, U, U, U, U, U, U, U, U, U, U, U, U, U, U, U, U, U, U, U, U, U, U, U, U, U, U, U, U, U, U, U], [(.blk 10 [(c_GEdit a1931)])]⟩)] [] rfl (W8 g1953 g1951 g1950 g1948 g1946 g1945 g1942 g1939 <| W2 g1936 g1935 Z0) (by kernel_rfl)
  have g1954 := bool_eq h1952
  cases h
  exact pv_z (F := F11) ⟨[ff 50, ff 59, ff 68, (75, (iv ((a1931.Via.length : Nat) : Int)), none), tt 76, tt 83, (91, (iv ((a1931.Parts.length : Nat) : Int)), none), ff 92], []⟩ [((.exit 0), ⟨[U, U, (.ptr 0 1 0 0), U, U, bt, bf, bf, bf, bf, bf, bf, U, U, U, U, U, U, U, U, U, U, U, U, U, U, U, U, U, U, U, U, U, U, U, U, U, U, U, U, U, U, U, U, U, U, U, U, U, U, U, U, U, U, U, U, U, U, U, U, U, U, U, U, U, U, U, U, U, U, U, U, U, U, U, U, U, U, U, U, U, U, U, U, U, U, U, U, U, U, U, U, U, U, U], [(.blk 10 [(c_GEdit a1931)])]⟩)] [] rfl (W8 g1954 g1951 g1950 g1948 g1946 g1945 g1942 g1939 <| W2 g1936 g1935 Z0) (by kernel_rfl)
def f11_2 : Nat → GEdit → Option Bool
 | 0, _ => none
 | n + 1, a1957 => (bnd (prdk 5 n) fun n1958 => (cnd (decide (a1957.At = (GPoint.mk 0 0))) (cnd (decide (a1957.Name = (⟨#[]⟩ : ByteArray))) (cnd (((a1957.Parts.length : Nat) : Int) == 0) (some true) (some false)) (some false)) (some false)))
theorem f11_2_ok (n : Nat) (a1957 : GEdit) (r : Bool) (h : f11_2 n a1957 = some r) : pv PP T n 11 [(.agg (c_GEdit a1957)), (sv (⟨#[97, 98, 99, 118]⟩))] = some (bv r) := by
 cases n with
 | zero => cases h
 | succ n =>
  rw [f11_2] at h
  obtain ⟨n1958, e1959, h⟩ := bnd_some h
  have q1960 := prdk_eq e1959
  have g1961 : cleanQ false 0 1 [(.blk 10 [(c_GEdit a1957)])] := trivial
  have g1962 : maskR [false, false, true, false, false, true, true, true, true, true, true, true] [false, false, false, false, true] false 0 1 (evLoopH (headSt (some [false, true, true, false, false, true, true, true, true, true, true, true, true]) false 0 1) (evC PP (evF PP T n) n 0 L11_0) n ⟨[U, (sv (⟨#[97, 98, 99, 118]⟩)), (.ptr 0 1 0 0), U, U, bf, bf, bf, bf, bf, bf, bf, (iv 0), U, U, U, U, U, U, U, U, U, U, U, U, U, U, U, U, U, U, U, U, U, U, U, U, U, U, U, U, U, U, U, U, U, U, U, U, U, U, U, U, U, U, U, U, U, U, U, U, U, U, U, U, U, U, U, U, U, U, U, U, U, U, U, U, U, U, U, U, U, U, U, U, U, U, U, U, U, U, U, U, U, U], [(.blk 10 [(c_GEdit a1957)])]⟩) = some ((.exit 0), ⟨[U, U, (.ptr 0 1 0 0), U, U, bf, bt, bt, bt, bt, bf, bf, U, U, U, U, U, U, U, U, U, U, U, U, U, U, U, U, U, U, U, U, U, U, U, U, U, U, U, U, U, U, U, U, U, U, U, U, U, U, U, U, U, U, U, U, U, U, U, U, U, U, U, U, U, U, U, U, U, U, U, U, U, U, U, U, U, U, U, U, U, U, U, U, U, U, U, U, U, U, U, U, U, U, U], [(.blk 10 [(c_GEdit a1957)])]⟩) := by rw [q1960]; kernel_rfl
  rcases cnd_or h with ⟨h1963, h⟩ | ⟨h1963, h⟩
  rotate_left
  ·have g1972 := c_GPoint_neq (cf := evF PP T n) (fl := 0) (H := [(.blk 10 [(c_GEdit a1957)])]) (a := a1957.At) (b := (GPoint.mk 0 0)) h1963
   cases h
   exact pv_z (F := F11) ⟨[tt 42], []⟩ [((.exit 0), ⟨[U, U, (.ptr 0 1 0 0), U, U, bf, bt, bt, bt, bt, bf, bf, U, U, U, U, U, U, U, U, U, U, U, U, U, U, U, U, U, U, U, U, U, U, U, U, U, U, U, U, U, U, U, U, U, U, U, U, U, U, U, U, U, U, U, U, U, U, U, U, U, U, U, U, U, U, U, U, U, U, U, U, U, U, U, U, U, U, U, U, U, U, U, U, U, U, U, U, U, U, U, U, U, U, U], [(.blk 10 [(c_GEdit a1957)])]⟩)] [] rfl (W2 g1972 g1962 <| Z g1961 Z0) (by kernel_rfl)
  have g1964 := c_GPoint_neq (cf := evF PP T n) (fl := 0) (H := [(.blk 10 [(c_GEdit a1957)])]) (a := a1957.At) (b := (GPoint.mk 0 0)) h1963
  rcases cnd_or h with ⟨h1965, h⟩ | ⟨h1965, h⟩
  rotate_left
  ·have g1971 := c_str_eql (P := PP) (cf := evF PP T n) (fl := 0) (H := [(.blk 10 [(c_GEdit a1957)])]) (t := 9) h1965
   cases h
   exact pv_z (F := F11) ⟨[ff 42, ff 83], []⟩ [((.exit 0), ⟨[U, U, (.ptr 0 1 0 0), U, U, bf, bt, bt, bt, bt, bf, bf, U, U, U, U, U, U, U, U, U, U, U, U, U, U, U, U, U, U, U, U, U, U, U, U, U, U, U, U, U, U, U, U, U, U, U, U, U, U, U, U, U, U, U, U, U, U, U, U, U, U, U, U, U, U, U, U, U, U, U, U, U, U, U, U, U, U, U, U, U, U, U, U, U, U, U, U, U, U, U, U, U, U, U], [(.blk 10 [(c_GEdit a1957)])]⟩)] [] rfl (W4 g1971 g1964 g1962 g1961 Z0) (by kernel_rfl)
  have g1966 := c_str_eql (P := PP) (cf := evF PP T n) (fl := 0) (H := [(.blk 10 [(c_GEdit a1957)])]) (t := 9) h1965
  have g1967 := len_sl (P := PP) (cf := evF PP T n) (fl := 0) (H := [(.blk 10 [(c_GEdit a1957)])]) (f := false) (c := c_i64) (l := a1957.Parts)
  rcases cnd_or h with ⟨h1968, h⟩ | ⟨h1968, h⟩
  ·have g1969 := bool_eq h1968
   cases h
   exact pv_z (F := F11) ⟨[ff 42, tt 83, (91, (iv ((a1957.Parts.length : Nat) : Int)), none), tt 92], []⟩ [((.exit 0), ⟨[U, U, (.ptr 0 1 0 0), U, U, bf, bt, bt, bt, bt, bf, bf, U, U, U, U, U, U, U, U, U, U, U, U, U, U, U, U, U, U, U, U, U, U, U, U, U, U, U, U, U, U, U, U, U, U, U, U, U, U, U, U, U, U, U, U, U, U, U, U, U, U, U, U, U, U, U, U, U, U, U, U, U, U, U, U, U, U, U, U, U, U, U, U, U, U, U, U, U, U, U, U, U, U, U], [(.blk 10 [(c_GEdit a1957)])]⟩)] [] rfl (W4 g1969 g1967 g1966 g1964 <| W2 g1962 g1961 Z0) (by kernel_rfl)
  have g1970 := bool_eq h1968
  cases h
  exact pv_z (F := F11) ⟨[ff 42, tt 83, (91, (iv ((a1957.Parts.length : Nat) : Int)), none), ff 92], []⟩ [((.exit 0), ⟨[U, U, (.ptr 0 1 0 0), U, U, bf, bt, bt, bt, bt, bf, bf, U, U, U, U, U, U, U, U, U, U, U, U, U, U, U, U, U, U, U, U, U, U, U, U, U, U, U, U, U, U, U, U, U, U, U, U, U, U, U, U, U, U, U, U, U, U, U, U, U, U, U, U, U, U, U, U, U, U, U, U, U, U, U, U, U, U, U, U, U, U, U, U, U, U, U, U, U, U, U, U, U, U, U], [(.blk 10 [(c_GEdit a1957)])]⟩)] [] rfl (W4 g1970 g1967 g1966 g1964 <| W2 g1962 g1961 Z0) (by kernel_rfl)
def f11_3 : Nat → GEdit → Option Bool
 | 0, _ => none
 | n + 1, a1973 => (bnd (prdk 2 n) fun n1974 => (cnd (decide (a1973.At = (GPoint.mk 0 0))) (cnd (a1973.A != 0) (some false) (cnd (a1973.B != 0) (some false) (cnd (a1973.C != 0) (some false) (cnd (decide (a1973.Name = (⟨#[]⟩ : ByteArray))) (cnd (((a1973.Parts.length : Nat) : Int) == 0) (some true) (some false)) (some false))))) (some false)))
theorem f11_3_ok (n : Nat) (a1973 : GEdit) (r : Bool) (h : f11_3 n a1973 = some r) : pv PP T n 11 [(.agg (c_GEdit a1973)), (sv (⟨#[118]⟩))] = some (bv r) := by
 cases n with
 | zero => cases h
 | succ n =>
  rw [f11_3] at h
  obtain ⟨n1974, e1975, h⟩ := bnd_some h
  have q1976 := prdk_eq e1975
  have g1977 : cleanQ false 0 1 [(.blk 10 [(c_GEdit a1973)])] := trivial
  have g1978 : maskR [false, false, true, false, false, true, true, true, true, true, true, true] [false, false, false, false, true] false 0 1 (evLoopH (headSt (some [false, true, true, false, false, true, true, true, true, true, true, true, true]) false 0 1) (evC PP (evF PP T n) n 0 L11_0) n ⟨[U, (sv (⟨#[118]⟩)), (.ptr 0 1 0 0), U, U, bf, bf, bf, bf, bf, bf, bf, (iv 0), U, U, U, U, U, U, U, U, U, U, U, U, U, U, U, U, U, U, U, U, U, U, U, U, U, U, U, U, U, U, U, U, U, U, U, U, U, U, U, U, U, U, U, U, U, U, U, U, U, U, U, U, U, U, U, U, U, U, U, U, U, U, U, U, U, U, U, U, U, U, U, U, U, U, U, U, U, U, U, U, U, U], [(.blk 10 [(c_GEdit a1973)])]⟩) = some ((.exit 0), ⟨[U, U, (.ptr 0 1 0 0), U, U, bf, bf, bf, bf, bt, bf, bf, U, U, U, U, U, U, U, U, U, U, U, U, U, U, U, U, U, U, U, U, U, U, U, U, U, U, U, U, U, U, U, U, U, U, U, U, U, U, U, U, U, U, U, U, U, U, U, U, U, U, U, U, U, U, U, U, U, U, U, U, U, U, U, U, U, U, U, U, U, U, U, U, U, U, U, U, U, U, U, U, U, U, U], [(.blk 10 [(c_GEdit a1973)])]⟩) := by rw [q1976]; kernel_rfl
  rcases cnd_or h with ⟨h1979, h⟩ | ⟨h1979, h⟩
  rotate_left
  ·have g1997 := c_GPoint_neq (cf := evF PP T n) (fl := 0) (H := [(.blk 10 [(c_GEdit a1973)])]) (a := a1973.At) (b := (GPoint.mk 0 0)) h1979
   cases h
   exact pv_z (F := F11) ⟨[tt 42], []⟩ [((.exit 0), ⟨[U, U, (.ptr 0 1 0 0), U, U, bf, bf, bf, bf, bt, bf, bf, U, U, U, U, U, U, U, U, U, U, U, U, U, U, U, U, U, U, U, U, U, U, U, U, U, U, U, U, U, U, U, U, U, U, U, U, U, U, U, U, U, U, U, U, U, U, U, U, U, U, U, U, U, U, U, U, U, U, U, U, U, U, U, U, U, U, U, U, U, U, U, U, U, U, U, U, U, U, U, U, U, U, U], [(.blk 10 [(c_GEdit a1973)])]⟩)] [] rfl (W2 g1997 g1978 <| Z g1977 Z0) (by kernel_rfl)
  have g1980 := c_GPoint_neq (cf := evF PP T n) (fl := 0) (H := [(.blk 10 [(c_GEdit a1973)])]) (a := a1973.At) (b := (GPoint.mk 0 0)) h1979
  rcases cnd_or h with ⟨h1981, h⟩ | ⟨h1981, h⟩
  ·have g1982 := bool_eq h1981
   cases h
   exact pv_z (F := F11) ⟨[ff 42, tt 50], []⟩ [((.exit 0), ⟨[U, U, (.ptr 0 1 0 0), U, U, bf, bf, bf, bf, bt, bf, bf, U, U, U, U, U, U, U, U, U, U, U, U, U, U, U, U, U, U, U, U, U, U, U, U, U, U, U, U, U, U, U, U, U, U, U, U, U, U, U, U, U, U, U, U, U, U, U, U, U, U, U, U, U, U, U, U, U, U, U, U, U, U, U, U, U, U, U, U, U, U, U, U, U, U, U, U, U, U, U, U, U, U, U], [(.blk 10 [(c_GEdit a1973)])]⟩)] [] rfl (W4 g1982 g1980 g1978 g1977 Z0) (by kernel_rfl)
  have g1983 := bool_eq h1981
  rcases cnd_or h with ⟨h1984, h⟩ | ⟨h1984, h⟩
  ·have g1985 := bool_eq h1984
   cases h
   exact pv_z (F := F11) ⟨[ff 42, ff 50, tt 59], []⟩ [((.exit 0), ⟨[U, U, (.ptr 0 1 0 0), U, U, bf, bf, bf, bf, bt, bf, bf, U, U, U, U, U, U, U, U, U, U, U, U, U, U, U, U, U, U, U, U, U, U, U, U, U, U, U, U, U, U, U, U, U, U, U, U, U, U, U, U, U, U, U, U, U, U, U, U, U, U, U, U, U, U, U, U, U, U, U, U, U, U, U, U, U, U, U, U, U, U, U, U, U, U, U, U, U, U, U, U, U, U, U], [(.blk 10 [(c_GEdit a1973)])]⟩)] [] rfl (W4 g1985 g1983 g1980 g1978 <| Z g1977 Z0) (by kernel_rfl)
  have g1986 := bool_eq h1984
  rcases cnd_or h with ⟨h1987, h⟩ | ⟨h1987, h⟩
  ·have g1988 := bool_eq h1987
   cases h
   exact pv_z (F := F11) ⟨[ff 42, ff 50, ff 59, tt 68], []⟩ [((.exit 0), ⟨[U, U, (.ptr 0 1 0 0), U, U, bf, bf, bf, bf, bt, bf, bf, U, U, U, U, U, U, U, U, U, U, U, U, U, U, U, U, U, U, U, U, U, U, U, U, U, U, U, U, U, U, U, U, U, U, U, U, U, U, U, U, U, U, U, U, U, U, U, U, U, U, U, U, U, U, U, U, U, U, U, U, U, U, U, U, U, U, U, U, U, U, U, U, U, U, U, U, U, U, U, U, U, U, U], [(.blk 10 [(c_GEdit a1973)])]⟩)] [] rfl (W4 g1988 g1986 g1983 g1980 <| W2 g1978 g1977 Z0) (by kernel_rfl)
  have g1989 := bool_eq h1987
  rcases cnd_or h with ⟨h1990, h⟩ | ⟨h1990, h⟩
  rotate_left
  ·have g1996 := c_str_eql (P := PP) (cf := evF PP T n) (fl := 0) (H := [(.blk 10 [(c_GEdit a1973)])]) (t := 9) h1990
   cases h
   exact pv_z (F := F11) ⟨[ff 42, ff 50, ff 59, ff 68, ff 83], []⟩ [((.exit 0), ⟨[U, U, (.ptr 0 1 0 0), U, U, bf, bf, bf, bf, bt, bf, bf, U, U, U, U, U, U, U, U, U, U, U, U, U, U, U, U, U, U, U, U, U, U, U, U, U, U, U, U, U, U, U, U, U, U, U, U, U, U, U, U, U, U, U, U, U, U, U, U, U, U, U, U, U, U, U, U, U, U, U, U, U, U, U, U, U, U, U, U, U, U, U, U, U, U, U, U, U, U, U, U, U, U, U], [(.blk 10 [(c_GEdit a1973)])]⟩)] [] rfl (W4 g1996 g1989 g1986 g1983 <| W2 g1980 g1978 <| Z g1977 Z0) (by kernel_rfl)
  have g1991 := c_str_eql (P := PP) (cf := evF PP T n) (fl := 0) (H := [(.blk 10 [(c_GEdit a1973)])]) (t := 9) h1990
  have g1992 := len_sl (P := PP) (cf := evF PP T n) (fl := 0) (H := [(.blk 10 [(c_GEdit a1973)])]) (f := false) (c := c_i64) (l := a1973.Parts)
  rcases cnd_or h with ⟨h1993, h⟩ | ⟨h1993, h⟩
  ·have g1994 := bool_eq h1993
   cases h
   exact pv_z (F := F11) ⟨[ff 42, ff 50, ff 59, ff 68, tt 83, (91, (iv ((a1973.Parts.length : Nat) : Int)), none), tt 92], []⟩ [((.exit 0), ⟨[U, U, (.ptr 0 1 0 0), U, U, bf, bf, bf, bf, bt, bf, bf, U, U, U, U, U, U, U, U, U, U, U, U, U, U, U, U, U, U, U, U, U, U, U, U, U, U, U, U, U, U, U, U, U, U, U, U, U, U, U, U, U, U, U, U, U, U, U, U, U, U, U, U, U, U, U, U, U, U, U, U, U, U, U, U, U, U, U, U, U, U, U, U, U, U, U, U, U, U, U, U, U, U, U], [(.blk 10 [(c_GEdit a1973)])]⟩)] [] rfl (W8 g1994 g1992 g1991 g1989 g1986 g1983 g1980 g1978 <| Z g1977 Z0) (by kernel_rfl)
  have g1995 := bool_eq h1993
  cases h
  exact pv_z (F := F11) ⟨[ff 42, ff 50, ff 59, ff 68, tt 83, (91, (iv ((a1973.Parts.length : Nat) : Int)), none), ff 92], []⟩ [((.exit 0), ⟨[U, U, (.ptr 0 1 0 0), U, U, bf, bf, bf, bf, bt, bf, bf, U, U, U, U, U, U, U, U, U, U, U, U, U, U, U, U, U, U, U, U, U, U, U, U, U, U, U, U, U, U, U, U, U, U, U, U, U, U, U, U, U, U, U, U, U, U, U, U, U, U, U, U, U, U, U, U, U, U, U, U, U, U, U, U, U, U, U, U, U, U, U, U, U, U, U, U, U, U, U, U, U, U, U], [(.blk 10 [(c_GEdit a1973)])]⟩)] [] rfl (W8 g1995 g1992 g1991 g1989 g1986 g1983 g1980 g1978 <| Z g1977 Z0) (by kernel_rfl)
def f11_4 : Nat → GEdit → Option Bool
 | 0, _ => none
 | n + 1, a1998 => (bnd (prdk 5 n) fun n1999 => (cnd (decide (a1998.At = (GPoint.mk 0 0))) (cnd (a1998.C != 0) (some false) (cnd (((a1998.Via.length : Nat) : Int) == 0) (some true) (some false))) (some false)))
theorem f11_4_ok (n : Nat) (a1998 : GEdit) (r : Bool) (h : f11_4 n a1998 = some r) : pv PP T n 11 [(.agg (c_GEdit a1998)), (sv (⟨#[97, 98, 110, 112]⟩))] = some (bv r) := by
 cases n with
 | zero => cases h
 | succ n =>
  rw [f11_4] at h
  obtain ⟨n1999, e2000, h⟩ := bnd_some h
  have q2001 := prdk_eq e2000
  have g2002 : cleanQ false 0 1 [(.blk 10 [(c_GEdit a1998)])] := trivial
  have g2003 : maskR [false, false, true, false, false, true, true, true, true, true, true, true] [false, false, false, false, true] false 0 1 (evLoopH (headSt (some [false, true, true, false, false, true, true, true, true, true, true, true, true]) false 0 1) (evC PP (evF PP T n) n 0 L11_0) n ⟨[U, (sv (⟨#[97, 98, 110, 112]⟩)), (.ptr 0 1 0 0), U, U, bf, bf, bf, bf, bf, bf, bf, (iv 0), U, U, U, U, U, U, U, U, U, U, U, U, U, U, U, U, U, U, U, U, U, U, U, U, U, U, U, U, U, U, U, U, U, U, U, U, U, U, U, U, U, U, U, U, U, U, U, U, U, U, U, U, U, U, U, U, U, U, U, U, U, U, U, U, U, U, U, U, U, U, U, U, U, U, U, U, U, U, U, U, U, U], [(.blk 10 [(c_GEdit a1998)])]⟩) = some ((.exit 0), ⟨[U, U, (.ptr 0 1 0 0), U, U, bf, bt, bt, bf, bf, bt, bt, U, U, U, U, U, U, U, U, U, U, U, U, U, U, U, U, U, U, U, U, U, U, U, U, U, U, U, U, U, U, U, U, U, U, U, U, U, U, U, U, U, U, U, U, U, U, U, U, U, U, U, U, U, U, U, U, U, U, U, U, U, U, U, U, U, U, U, U, U, U, U, U, U, U, U, U, U, U, U, U, U, U, U], [(.blk 10 [(c_GEdit a1998)])]⟩) := by rw [q2001]; kernel_rfl
  rcases cnd_or h with ⟨h2004, h⟩ | ⟨h2004, h⟩
  rotate_left
  ·have g2013 := c_GPoint_neq (cf := evF PP T n) (fl := 0) (H := [(.blk 10 [(c_GEdit a1998)])]) (a := a1998.At) (b := (GPoint.mk 0 0)) h2004
   cases h
   exact pv_z (F := F11) ⟨[tt 42], []⟩ [((.exit 0), ⟨[U, U, (.ptr 0 1 0 0), U, U, bf, bt, bt, bf, bf, bt, bt, U, U, U, U, U, U, U, U, U, U, U, U, U, U, U, U, U, U, U, U, U, U, U, U, U, U, U, U, U, U, U, U, U, U, U, U, U, U, U, U, U, U, U, U, U, U, U, U, U, U, U, U, U, U, U, U, U, U, U, U, U, U, U, U, U, U, U, U, U, U, U, U, U, U, U, U, U, U, U, U, U, U, U], [(.blk 10 [(c_GEdit a1998)])]⟩)] [] rfl (W2 g2013 g2003 <| Z g2002 Z0) (by kernel_rfl)
  have g2005 := c_GPoint_neq (cf := evF PP T n) (fl := 0) (H := [(.blk 10 [(c_GEdit a1998)])]) (a := a1998.At) (b := (GPoint.mk 0 0)) h2004
  rcases cnd_or h with ⟨h2006, h⟩ | ⟨h2006, h⟩
  ·have g2007 := bool_eq h2006
   cases h
   exact pv_z (F := F11) ⟨[ff 42, tt 68], []⟩ [((.exit 0), ⟨[U, U, (.ptr 0 1 0 0), U, U, bf, bt, bt, bf, bf, bt, bt, U, U, U, U, U, U, U, U, U, U, U, U, U, U, U, U, U, U, U, U, U, U, U, U, U, U, U, U, U, U, U, U, U, U, U, U, U, U, U, U, U, U, U, U, U, U, U, U, U, U, U, U, U, U, U, U, U, U, U, U, U, U, U, U, U, U, U, U, U, U, U, U, U, U, U, U, U, U, U, U, U, U, U], [(.blk 10 [(c_GEdit a1998)])]⟩)] [] rfl (W4 g2007 g2005 g2003 g2002 Z0) (by kernel_rfl)
  have g2008 := bool_eq h2006
  have g2009 := len_sl (P := PP) (cf := evF PP T n) (fl := 0) (H := [(.blk 10 [(c_GEdit a1998)])]) (f := false) (c := c_GPoint) (l := a1998.Via)
  rcases cnd_or h with ⟨h2010, h⟩ | ⟨h2010, h⟩
  ·have g2011 := bool_eq h2010
   cases h
   exact pv_z (F := F11) ⟨[ff 42, ff 68, (75, (iv ((a1998.Via.length : Nat) : Int)), none), tt 76], []⟩ [((.exit 0), ⟨[U, U, (.ptr 0 1 0 0), U, U, bf, bt, bt, bf, bf, bt, bt, U, U, U, U, U, U, U, U, U, U, U, U, U, U, U, U, U, U, U, U, U, U, U, U, U, U, U, U, U, U, U, U, U, U, U, U, U, U, U, U, U, U, U, U, U, U, U, U, U, U, U, U, U, U, U, U, U, U, U, U, U, U, U, U, U, U, U, U, U, U, U, U, U, U, U, U, U, U, U, U, U, U, U], [(.blk 10 [(c_GEdit a1998)])]⟩)] [] rfl (W4 g2011 g2009 g2008 g2005 <| W2 g2003 g2002 Z0) (by kernel_rfl)
  have g2012 := bool_eq h2010
  cases h
  exact pv_z (F := F11) ⟨[ff 42, ff 68, (75, (iv ((a1998.Via.length : Nat) : Int)), none), ff 76], []⟩ [((.exit 0), ⟨[U, U, (.ptr 0 1 0 0), U, U, bf, bt, bt, bf, bf, bt, bt, U, U, U, U, U, U, U, U, U, U, U, U, U, U, U, U, U, U, U, U, U, U, U, U, U, U, U, U, U, U, U, U, U, U, U, U, U, U, U, U, U, U, U, U, U, U, U, U, U, U, U, U, U, U, U, U, U, U, U, U, U, U, U, U, U, U, U, U, U, U, U, U, U, U, U, U, U, U, U, U, U, U, U], [(.blk 10 [(c_GEdit a1998)])]⟩)] [] rfl (W4 g2012 g2009 g2008 g2005 <| W2 g2003 g2002 Z0) (by kernel_rfl)
def f11_5 : Nat → GEdit → Option Bool
 | 0, _ => none
 | n + 1, a2014 => (bnd (prdk 2 n) fun n2015 => (cnd (decide (a2014.At = (GPoint.mk 0 0))) (cnd (a2014.A != 0) (some false) (cnd (a2014.B != 0) (some false) (cnd (a2014.C != 0) (some false) (cnd (((a2014.Via.length : Nat) : Int) == 0) (cnd (((a2014.Parts.length : Nat) : Int) == 0) (some true) (some false)) (some false))))) (some false)))
theorem f11_5_ok (n : Nat) (a2014 : GEdit) (r : Bool) (h : f11_5 n a2014 = some r) : pv PP T n 11 [(.agg (c_GEdit a2014)), (sv (⟨#[110]⟩))] = some (bv r) := by
 cases n with
 | zero => cases h
 | succ n =>
  rw [f11_5] at h
  obtain ⟨n2015, e2016, h⟩ := bnd_some h
  have q2017 := prdk_eq e2016
  have g2018 : cleanQ false 0 1 [(.blk 10 [(c_GEdit a2014)])] := trivial
  have g2019 : maskR [false, false, true, false, false, true, true, true, true, true, true, true] [false, false, false, false, true] false 0 1 (evLoopH (headSt (some [false, true, true, false, false, true, true, true, true, true, true, true, true]) false 0 1) (evC PP (evF PP T n) n 0 L11_0) n ⟨[U, (sv (⟨#[110]⟩)), (.ptr 0 1 0 0), U, U, bf, bf, bf, bf, bf, bf, bf, (iv 0), U, U, U, U, U, U, U, U, U, U, U, U, U, U, U, U, U, U, U, U, U, U, U, U, U, U, U, U, U, U, U, U, U, U, U, U, U, U, U, U, U, U, U, U, U, U, U, U, U, U, U, U, U, U, U, U, U, U, U, U, U, U, U, U, U, U, U, U, U, U, U, U, U, U, U, U, U, U, U, U, U, U], [(.blk 10 [(c_GEdit a2014)])]⟩) = some ((.exit 0), ⟨[U, U, (.ptr 0 1 0 0), U, U, bf, bf, bf, bf, bf, bt, bf, U, U, U, U, U, U, U, U, U, U, U, U, U, U, U, U, U, U, U, U, U, U, U, U, U, U, U, U, U, U, U, U, U, U, U, U, U, U, U, U, U, U, U, U, U, U, U, U, U, U, U, U, U, U, U, U, U, U, U, U, U, U, U, U, U, U, U, U, U, U, U, U, U, U, U, U, U, U, U, U, U, U, U], [(.blk 10 [(c_GEdit a2014)])]⟩) := by rw [q2017]; kernel_rfl
  rcases cnd_or h with ⟨h2020, h⟩ | ⟨h2020, h⟩
  rotate_left
  ·have g2039 := c_GPoint_neq (cf := evF PP T n) (fl := 0) (H := [(.blk 10 [(c_GEdit a2014)])]) (a := a2014.At) (b := (GPoint.mk 0 0)) h2020
   cases h
   exact pv_z (F := F11) ⟨[tt 42], []⟩ [((.exit 0), ⟨[U, U, (.ptr 0 1 0 0), U, U, bf, bf, bf, bf, bf, bt, bf, U, U, U, U, U, U, U, U, U, U, U, U, U, U, U, U, U, U, U, U, U, U, U, U, U, U, U, U, U, U, U, U, U, U, U, U, U, U, U, U, U, U, U, U, U, U, U, U, U, U, U, U, U, U, U, U, U, U, U, U, U, U, U, U, U, U, U, U, U, U, U, U, U, U, U, U, U, U, U, U, U, U, U], [(.blk 10 [(c_GEdit a2014)])]⟩)] [] rfl (W2 g2039 g2019 <| Z g2018 Z0) (by kernel_rfl)
  have g2021 := c_GPoint_neq (cf := evF PP T n) (fl := 0) (H := [(.blk 10 [(c_GEdit a2014)])]) (a := a2014.At) (b := (GPoint.mk 0 0)) h2020
  rcases cnd_or h with ⟨h2022, h⟩ | ⟨h2022, h⟩
  ·have g2023 := bool_eq h2022
   cases h
   exact pv_z (F := F11) ⟨[ff 42, tt 50], []⟩ [((.exit 0), ⟨[U, U, (.ptr 0 1 0 0), U, U, bf, bf, bf, bf, bf, bt, bf, U, U, U, U, U, U, U, U, U, U, U, U, U, U, U, U, U, U, U, U, U, U, U, U, U, U, U, U, U, U, U, U, U, U, U, U, U, U, U, U, U, U, U, U, U, U, U, U, U, U, U, U, U, U, U, U, U, U, U, U, U, U, U, U, U, U, U, U, U, U, U, U, U, U, U, U, U, U, U, U, U, U, U], [(.blk 10 [(c_GEdit a2014)])]⟩)] [] rfl (W4 g2023 g2021 g2019 g2018 Z0) (by kernel_rfl)
  have g2024 := bool_eq h2022
  rcases cnd_or h with ⟨h2025, h⟩ | ⟨h2025, h⟩
  ·have g2026 := bool_eq h2025
   cases h
   exact pv_z (F := F11) ⟨[ff 42, ff 50, tt 59], []⟩ [((.exit 0), ⟨[U, U, (.ptr 0 1 0 0), U, U, bf, bf, bf, bf, bf, bt, bf, U, U, U, U, U, U, U, U, U, U, U, U, U, U, U, U, U, U, U, U, U, U, U, U, U, U, U, U, U, U, U, U, U, U, U, U, U, U, U, U, U, U, U, U, U, U, U, U, U, U, U, U, U, U, U, U, U, U, U, U, U, U, U, U, U, U, U, U, U, U, U, U, U, U, U, U, U, U, U, U, U, U, U], [(.blk 10 [(c_GEdit a2014)])]⟩)] [] rfl (W4 g2026 g2024 g2021 g2019 <| Z g2018 Z0) (by kernel_rfl)
  have g2027 := bool_eq h2025
  rcases cnd_or h with ⟨h2028, h⟩ | ⟨h2028, h⟩
  ·have g2029 := bool_eq h2028
   cases h
   exact pv_z (F := F11) ⟨[ff 42, ff 50, ff 59, tt 68], []⟩ [((.exit 0), ⟨[U, U, (.ptr 0 1 0 0), U, U, bf, bf, bf, bf, bf, bt, bf, U, U, U, U, U, U, U, U, U, U, U, U, U, U, U, U, U, U, U, U, U, U, U, U, U, U, U, U, U, U, U, U, U, U, U, U, U, U, U, U, U, U, U, U, U, U, U, U, U, U, U, U, U, U, U, U, U, U, U, U, U, U, U, U, U, U, U, U, U, U, U, U, U, U, U, U, U, U, U, U, U, U, U], [(.blk 10 [(c_GEdit a2014)])]⟩)] [] rfl (W4 g2029 g2027 g2024 g2021 <| W2 g2019 g2018 Z0) (by kernel_rfl)
  have g2030 := bool_eq h2028
  have g2031 := len_sl (P := PP) (cf := evF PP T n) (fl := 0) (H := [(.blk 10 [(c_GEdit a2014)])]) (f := false) (c := c_GPoint) (l := a2014.Via)
  rcases cnd_or h with ⟨h2032, h⟩ | ⟨h2032, h⟩
  rotate_left
  ·have g2038 := bool_eq h2032
   cases h
   exact pv_z (F := F11) ⟨[ff 42, ff 50, ff 59, ff 68, (75, (iv ((a2014.Via.length : Nat) : Int)), none), ff 76], []⟩ [((.exit 0), ⟨[U, U, (.ptr 0 1 0 0), U, U, bf, bf, bf, bf, bf, bt, bf, U, U, U, U, U, U, U, U, U, U, U, U, U, U, U, U, U, U, U, U, U, U, U, U, U, U, U, U, U, U, U, U, U, U, U, U, U, U, U, U, U, U, U, U, U, U, U, U, U, U, U, U, U, U, U, U, U, U, U, U, U, U, U, U, U, U, U, U, U, U, U, U, U, U, U, U, U, U, U, U, U, U, U], [(.blk 10 [(c_GEdit a2014)])]⟩)] [] rfl (W8 g2038 g2031 g2030 g2027 g2024 g2021 g2019 g2018 Z0) (by kernel_rfl)
  have g2033 := bool_eq h2032
  have g2034 := len_sl (P := PP) (cf := evF PP T n) (fl := 0) (H := [(.blk 10 [(c_GEdit a2014)])]) (f := false) (c := c_i64) (l := a2014.Parts)
  rcases cnd_or h with ⟨h2035, h⟩ | ⟨h2035, h⟩
  ·have g2036 := bool_eq h2035
   cases h
   exact pv_z (F := F11) ⟨[ff 42, ff 50, ff 59, ff 68, (75, (iv ((a2014.Via.length : Nat) : Int)), none), tt 76, (91, (iv ((a2014.Parts.length : Nat) : Int)), none), tt 92], []⟩ [((.exit 0), ⟨[U, U, (.ptr 0 1 0 0), U, U, bf, bf, bf, bf, bf, bt, bf, U, U, U, U, U, U, U, U, U, U, U, U, U, U, U, U, U, U, U, U, U, U, U, U, U, U, U, U, U, U, U, U, U, U, U, U, U, U, U, U, U, U, U, U, U, U, U, U, U, U, U, U, U, U, U, U, U, U, U, U, U, U, U, U, U, U, U, U, U, U, U, U, U, U, U, U, U, U, U, U, U, U, U], [(.blk 10 [(c_GEdit a2014)])]⟩)] [] rfl (W8 g2036 g2034 g2033 g2031 g2030 g2027 g2024 g2021 <| W2 g2019 g2018 Z0) (by kernel_rfl)
  have g2037 := bool_eq h2035
  cases h
  exact pv_z (F := F11) ⟨[ff 42, ff 50, ff 59, ff 68, (75, (iv ((a2014.Via.length : Nat) : Int)), none), tt 76, (91, (iv ((a2014.Parts.length : Nat) : Int)), none), ff 92], []⟩ [((.exit 0), ⟨[U, U, (.ptr 0 1 0 0), U, U, bf, bf, bf, bf, bf, bt, bf, U, U, U, U, U, U, U, U, U, U, U, U, U, U, U, U, U, U, U, U, U, U, U, U, U, U, U, U, U, U, U, U, U, U, U, U, U, U, U, U, U, U, U, U, U, U, U, U, U, U, U, U, U, U, U, U, U, U, U, U, U, U, U, U, U, U, U, U, U, U, U, U, U, U, U, U, U, U, U, U, U, U, U], [(.blk 10 [(c_GEdit a2014)])]⟩)] [] rfl (W8 g2037 g2034 g2033 g2031 g2030 g2027 g2024 g2021 <| W2 g2019 g2018 Z0) (by kernel_rfl)
def f11_6 : Nat → GEdit → Option Bool
 | 0, _ => none
 | n + 1, a2040 => (bnd (prdk 2 n) fun n2041 => (cnd (decide (a2040.At = (GPoint.mk 0 0))) (cnd (a2040.A != 0) (some false) (cnd (a2040.C != 0) (some false) (cnd (((a2040.Via.length : Nat) : Int) == 0) (cnd (decide (a2040.Name = (⟨#[]⟩ : ByteArray))) (cnd (((a2040.Parts.length : Nat) : Int) == 0) (some true) (some false)) (some false)) (some false)))) (some false)))
theorem f11_6_ok (n : Nat) (a2040 : GEdit) (r : Bool) (h : f11_6 n a2040 = some r) : pv PP T n 11 [(.agg (c_GEdit a2040)), (sv (⟨#[98]⟩))] = some (bv r) := by
 cases n with
 | zero => cases h
 | succ n =>
  rw [f11_6] at h
  obtain ⟨n2041, e2042, h⟩ := bnd_some h
  have q2043 := prdk_eq e2042
  have g2044 : cleanQ false 0 1 [(.blk 10 [(c_GEdit a2040)])] := trivial
  have g2045 : maskR [false, false, true, false, false, true, true, true, true, true, true, true] [false, false, false, false, true] false 0 1 (evLoopH (headSt (some [false, true, true, false, false, true, true, true, true, true, true, true, true]) false 0 1) (evC PP (evF PP T n) n 0 L11_0) n ⟨[U, (sv (⟨#[98]⟩)), (.ptr 0 1 0 0), U, U, bf, bf, bf, bf, bf, bf, bf, (iv 0), U, U, U, U, U, U, U, U, U, U, U, U, U, U, U, U, U, U, U, U, U, U, U, U, U, U, U, U, U, U, U, U, U, U, U, U, U, U, U, U, U, U, U, U, U, U, U, U, U, U, U, U, U, U, U, U, U, U, U, U, U, U, U, U, U, U, U, U, U, U, U, U, U, U, U, U, U, U, U, U, U, U], [(.blk 10 [(c_GEdit a2040)])]⟩) = some ((.exit 0), ⟨[U, U, (.ptr 0 1 0 0), U, U, bf, bf, bt, bf, bf, bf, bf, U, U, U, U, U, U, U, U, U, U, U, U, U, U, U, U, U, U, U, U, U, U, U, U, U, U, U, U, U, U, U, U, U, U, U, U, U, U, U, U, U, U, U, U, U, U, U, U, U, U, U, U, U, U, U, U, U, U, U, U, U, U, U, U, U, U, U, U, U, U, U, U, U, U, U, U, U, U, U, U, U, U, U], [(.blk 10 [(c_GEdit a2040)])]⟩) := by rw [q2043]; kernel_rfl
  rcases cnd_or h with ⟨h2046, h⟩ | ⟨h2046, h⟩
  rotate_left
  ·have g2065 := c_GPoint_neq (cf := evF PP T n) (fl := 0) (H := [(.blk 10 [(c_GEdit a2040)])]) (a := a2040.At) (b := (GPoint.mk 0 0)) h2046
   cases h
   exact pv_z (F := F11) ⟨[tt 42], []⟩ [((.exit 0), ⟨[U, U, (.ptr 0 1 0 0), U, U, bf, bf, bt, bf, bf, bf, bf, U, U, U, U, U, U, U, U, U, U, U, U, U, U, U, U, U, U, U, U, U, U, U, U, U, U, U, U, U, U, U, U, U, U, U, U, U, U, U, U, U, U, U, U, U, U, U, U, U, U, U, U, U, U, U, U, U, U, U, U, U, U, U, U, U, U, U, U, U, U, U, U, U, U, U, U, U, U, U, U, U, U, U], [(.blk 10 [(c_GEdit a2040)])]⟩)] [] rfl (W2 g2065 g2045 <| Z g2044 Z0) (by kernel_rfl)
  have g2047 := c_GPoint_neq (cf := evF PP T n) (fl := 0) (H := [(.blk 10 [(c_GEdit a2040)])]) (a := a2040.At) (b := (GPoint.mk 0 0)) h2046
  rcases cnd_or h with ⟨h2048, h⟩ | ⟨h2048, h⟩
  ·have g2049 := bool_eq h2048
   cases h
   exact pv_z (F := F11) ⟨[ff 42, tt 50], []⟩ [((.exit 0), ⟨[U, U, (.ptr 0 1 0 0), U, U, bf, bf, bt, bf, bf, bf, bf, U, U, U, U, U, U, U, U, U, U, U, U, U, U, U, U, U, U, U, U, U, U, U, U, U, U, U, U, U, U, U, U, U, U, U, U, U, U, U, U, U, U, U, U, U, U, U, U, U, U, U, U, U, U, U, U, U, U, U, U, U, U, U, U, U, U, U, U, U, U, U, U, U, U, U, U, U, U, U, U, U, U, U], [(.blk 10 [(c_GEdit a2040)])]⟩)] [] rfl (W4 g2049 g2047 g2045 g2044 Z0) (by kernel_rfl)
  have g2050 := bool_eq h2048
  rcases cnd_or h with ⟨h2051, h⟩ | ⟨h2051, h⟩
  ·have g2052 := bool_eq h2051
   cases h
   exact pv_z (F := F11) ⟨[ff 42, ff 50, tt 68], []⟩ [((.exit 0), ⟨[U, U, (.ptr 0 1 0 0), U, U, bf, bf, bt, bf, bf, bf, bf, U, U, U, U, U, U, U, U, U, U, U, U, U, U, U, U, U, U, U, U, U, U, U, U, U, U, U, U, U, U, U, U, U, U, U, U, U, U, U, U, U, U, U, U, U, U, U, U, U, U, U, U, U, U, U, U, U, U, U, U, U, U, U, U, U, U, U, U, U, U, U, U, U, U, U, U, U, U, U, U, U, U, U], [(.blk 10 [(c_GEdit a2040)])]⟩)] [] rfl (W4 g2052 g2050 g2047 g2045 <| Z g2044 Z0) (by kernel_rfl)
  have g2053 := bool_eq h2051
  have g2054 := len_sl (P := PP) (cf := evF PP T n) (fl := 0) (H := [(.blk 10 [(c_GEdit a2040)])]) (f := false) (c := c_GPoint) (l := a2040.Via)
  rcases cnd_or h with ⟨h2055, h⟩ | ⟨h2055, h⟩
  rotate_left
  ·have g2064 := bool_eq h2055
   cases h
   exact pv_z (F := F11) ⟨[ff 42, ff 50, ff 68, (75, (iv ((a2040.Via.length : Nat) : Int)), none), ff 76], []⟩ [((.exit 0), ⟨[U, U, (.ptr 0 1 0 0), U, U, bf, bf, bt, bf, bf, bf, bf, U, U, U, U, U, U, U, U, U, U, U, U, U, U, U, U, U, U, U, U, U, U, U, U, U, U, U, U, U, U, U, U, U, U, U, U, U, U, U, U, U, U, U, U, U, U, U, U, U, U, U, U, U, U, U, U, U, U, U, U, U, U, U, U, U, U, U, U, U, U, U, U, U, U, U, U, U, U, U, U, U, U, U], [(.blk 10 [(c_GEdit a2040)])]⟩)] [] rfl (W4 g2064 g2054 g2053 g2050 <| W2 g2047 g2045 <| Z g2044 Z0) (by kernel_rfl)
  have g2056 := bool_eq h2055
  rcases cnd_or h with ⟨h2057, h⟩ | ⟨h2057, h⟩
  rotate_left
  ·have g2063 := c_str_eql (P := PP) (cf := evF PP T n) (fl := 0) (H := [(.blk 10 [(c_GEdit a2040)])]) (t := 9) h2057
   cases h
   exact pv_z (F := F11) ⟨[ff 42, ff 50, ff 68, (75, (iv ((a2040.Via.length : Nat) : Int)), none), tt 76, ff 83], []⟩ [((.exit 0), ⟨[U, U, (.ptr 0 1 0 0), U, U, bf, bf, bt, bf, bf, bf, bf, U, U, U, U, U, U, U, U, U, U, U, U, U, U, U, U, U, U, U, U, U, U, U, U, U, U, U, U, U, U, U, U, U, U, U, U, U, U, U, U, U, U, U, U, U, U, U, U, U, U, U, U, U, U, U, U, U, U, U, U, U, U, U, U, U, U, U, U, U, U, U, U, U, U, U, U, U, U, U, U, U, U, U], [(.blk 10 [(c_GEdit a2040)])]⟩)] [] rfl (W8 g2063 g2056 g2054 g2053 g2050 g2047 g2045 g2044 Z0) (by kernel_rfl)
  have g2058 := c_str_eql (P := PP) (cf := evF PP T n) (fl := 0) (H := [(.blk 10 [(c_GEdit a2040)])]) (t := 9) h2057
  have g2059 := len_sl (P := PP) (cf := evF PP T n) (fl := 0) (H := [(.blk 10 [(c_GEdit a2040)])]) (f := false) (c := c_i64) (l := a2040.Parts)
  rcases cnd_or h with ⟨h2060, h⟩ | ⟨h2060, h⟩
  ·have g2061 := bool_eq h2060
   cases h
   exact pv_z (F := F11) ⟨[ff 42, ff 50, ff 68, (75, (iv ((a2040.Via.length : Nat) : Int)), none), tt 76, tt 83, (91, (iv ((a2040.Parts.length : Nat) : Int)), none), tt 92], []⟩ [((.exit 0), ⟨[U, U, (.ptr 0 1 0 0), U, U, bf, bf, bt, bf, bf, bf, bf, U, U, U, U, U, U, U, U, U, U, U, U, U, U, U, U, U, U, U, U, U, U, U, U, U, U, U, U, U, U, U, U, U, U, U, U, U, U, U, U, U, U, U, U, U, U, U, U, U, U, U, U, U, U, U, U, U, U, U, U, U, U, U, U, U, U, U, U, U, U, U, U, U, U, U, U, U, U, U, U, U, U, U], [(.blk 10 [(c_GEdit a2040)])]⟩)] [] rfl (W8 g2061 g2059 g2058 g2056 g2054 g2053 g2050 g2047 <| W2 g2045 g2044 Z0) (by kernel_rfl)
  have g2062 := bool_eq h2060
  cases h
  exact pv_z (F := F11) ⟨[ff 42, ff 50, ff 68, (75, (iv ((a2040.Via.length : Nat) : Int)), none), tt 76, tt 83, (91, (iv ((a2040.Parts.length : Nat) : Int)), none), ff 92], []⟩ [((.exit 0), ⟨[U, U, (.ptr 0 1 0 0), U, U, bf, bf, bt, bf, bf, bf, bf, U, U, U, U, U, U, U, U, U, U, U, U, U, U, U, U, U, U, U, U, U, U, U, U, U, U, U, U, U, U, U, U, U, U, U, U, U, U, U, U, U, U, U, U, U, U, U, U, U, U, U, U, U, U, U, U, U, U, U, U, U, U, U, U, U, U, U, U, U, U, U, U, U, U, U, U, U, U, U, U, U, U, U], [(.blk 10 [(c_GEdit a2040)])]⟩)] [] rfl (W8 g2062 g2059 g2058 g2056 g2054 g2053 g2050 g2047 <| W2 g2045 g2044 Z0) (by kernel_rfl)
def f11_7 : Nat → GEdit → Option Bool
 | 0, _ => none
 | n + 1, a2066 => (bnd (prdk 2 n) fun n2067 => (cnd (decide (a2066.At = (GPoint.mk 0 0))) (cnd (a2066.A != 0) (some false) (cnd (a2066.B != 0) (some false) (cnd (a2066.C != 0) (some false) (cnd (((a2066.Via.length : Nat) : Int) == 0) (cnd (decide (a2066.Name = (⟨#[]⟩ : ByteArray))) (some true) (some false)) (some false))))) (some false)))
theorem f11_7_ok (n : Nat) (a2066 : GEdit) (r : Bool) (h : f11_7 n a2066 = some r) : pv PP T n 11 [(.agg (c_GEdit a2066)), (sv (⟨#[112]⟩))] = some (bv r) := by
 cases n with
 | zero => cases h
 | succ n =>
  rw [f11_7] at h
  obtain ⟨n2067, e2068, h⟩ := bnd_some h
  have q2069 := prdk_eq e2068
  have g2070 : cleanQ false 0 1 [(.blk 10 [(c_GEdit a2066)])] := trivial
  have g2071 : maskR [false, false, true, false, false, true, true, true, true, true, true, true] [false, false, false, false, true] false 0 1 (evLoopH (headSt (some [false, true, true, false, false, true, true, true, true, true, true, true, true]) false 0 1) (evC PP (evF PP T n) n 0 L11_0) n ⟨[U, (sv (⟨#[112]⟩)), (.ptr 0 1 0 0), U, U, bf, bf, bf, bf, bf, bf, bf, (iv 0), U, U, U, U, U, U, U, U, U, U, U, U, U, U, U, U, U, U, U, U, U, U, U, U, U, U, U, U, U, U, U, U, U, U, U, U, U, U, U, U, U, U, U, U, U, U, U, U, U, U, U, U, U, U, U, U, U, U, U, U, U, U, U, U, U, U, U, U, U, U, U, U, U, U, U, U, U, U, U, U, U, U], [(.blk 10 [(c_GEdit a2066)])]⟩) = some ((.exit 0), ⟨[U, U, (.ptr 0 1 0 0), U, U, bf, bf, bf, bf, bf, bf, bt, U, U, U, U, U, U, U, U, U, U, U, U, U, U, U, U, U, U, U, U, U, U, U, U, U, U, U, U, U, U, U, U, U, U, U, U, U, U, U, U, U, U, U, U, U, U, U, U, U, U, U, U, U, U, U, U, U, U, U, U, U, U, U, U, U, U, U, U, U, U, U, U, U, U, U, U, U, U, U, U, U, U, U], [(.blk 10 [(c_GEdit a2066)])]⟩) := by rw [q2069]; kernel_rfl
  rcases cnd_or h with ⟨h2072, h⟩ | ⟨h2072, h⟩
  rotate_left
  ·have g2090 := c_GPoint_neq (cf := evF PP T n) (fl := 0) (H := [(.blk 10 [(c_GEdit a2066)])]) (a := a2066.At) (b := (GPoint.mk 0 0)) h2072
   cases h
   exact pv_z (F := F11) ⟨[tt 42], []⟩ [((.exit 0), ⟨[U, U, (.ptr 0 1 0 0), U, U, bf, bf, bf, bf, bf, bf, bt, U, U, U, U, U, U, U, U, U, U, U, U, U, U, U, U, U, U, U, U, U, U, U, U, U, U, U, U, U, U, U, U, U, U, U, U, U, U, U, U, U, U, U, U, U, U, U, U, U, U, U, U, U, U, U, U, U, U, U, U, U, U, U, U, U, U, U, U, U, U, U, U, U, U, U, U, U, U, U, U, U, U, U], [(.blk 10 [(c_GEdit a2066)])]⟩)] [] rfl (W2 g2090 g2071 <| Z g2070 Z0) (by kernel_rfl)
  have g2073 := c_GPoint_neq (cf := evF PP T n) (fl := 0) (H := [(.blk 10 [(c_GEdit a2066)])]) (a := a2066.At) (b := (GPoint.mk 0 0)) h2072
  rcases cnd_or h with ⟨h2074, h⟩ | ⟨h2074, h⟩
  ·have g2075 := bool_eq h2074
   cases h
   exact pv_z (F := F11) ⟨[ff 42, tt 50], []⟩ [((.exit 0), ⟨[U, U, (.ptr 0 1 0 0), U, U, bf, bf, bf, bf, bf, bf, bt, U, U, U, U, U, U, U, U, U, U, U, U, U, U, U, U, U, U, U, U, U, U, U, U, U, U, U, U, U, U, U, U, U, U, U, U, U, U, U, U, U, U, U, U, U, U, U, U, U, U, U, U, U, U, U, U, U, U, U, U, U, U, U, U, U, U, U, U, U, U, U, U, U, U, U, U, U, U, U, U, U, U, U], [(.blk 10 [(c_GEdit a2066)])]⟩)] [] rfl (W4 g2075 g2073 g2071 g2070 Z0) (by kernel_rfl)
  have g2076 := bool_eq h2074
  rcases cnd_or h with ⟨h2077, h⟩ | ⟨h2077, h⟩
  ·have g2078 := bool_eq h2077
   cases h
   exact pv_z (F := F11) ⟨[ff 42, ff 50, tt 59], []⟩ [((.exit 0), ⟨[U, U, (.ptr 0 1 0 0), U, U, bf, bf, bf, bf, bf, bf, bt, U, U, U, U, U, U, U, U, U, U, U, U, U, U, U, U, U, U, U, U, U, U, U, U, U, U, U, U, U, U, U, U, U, U, U, U, U, U, U, U, U, U, U, U, U, U, U, U, U, U, U, U, U, U, U, U, U, U, U, U, U, U, U, U, U, U, U, U, U, U, U, U, U, U, U, U, U, U, U, U, U, U, U], [(.blk 10 [(c_GEdit a2066)])]⟩)] [] rfl (W4 g2078 g2076 g2073 g2071 <| Z g2070 Z0) (by kernel_rfl)
  have g2079 := bool_eq h2077
  rcases cnd_or h with ⟨h2080, h⟩ | ⟨h2080, h⟩
  ·have g2081 := bool_eq h2080
   cases h
   exact pv_z (F := F11) ⟨[ff 42, ff 50, ff 59, tt 68], []⟩ [((.exit 0), ⟨[U, U, (.ptr 0 1 0 0), U, U, bf, bf, bf, bf, bf, bf, bt, U, U, U, U, U, U, U, U, U, U, U, U, U, U, U, U, U, U, U, U, U, U, U, U, U, U, U, U, U, U, U, U, U, U, U, U, U, U, U, U, U, U, U, U, U, U, U, U, U, U, U, U, U, U, U, U, U, U, U, U, U, U, U, U, U, U, U, U, U, U, U, U, U, U, U, U, U, U, U, U, U, U, U], [(.blk 10 [(c_GEdit a2066)])]⟩)] [] rfl (W4 g2081 g2079 g2076 g2073 <| W2 g2071 g2070 Z0) (by kernel_rfl)
  have g2082 := bool_eq h2080
  have g2083 := len_sl (P := PP) (cf := evF PP T n) (fl := 0) (H := [(.blk 10 [(c_GEdit a2066)])]) (f := false) (c := c_GPoint) (l := a2066.Via)
  rcases cnd_or h with ⟨h2084, h⟩ | ⟨h2084, h⟩
  rotate_left
  ·have g2089 := bool_eq h2084
   cases h
   exact pv_z (F := F11) ⟨[ff 42, ff 50, ff 59, ff 68, (75, (iv ((a2066.Via.length : Nat) : Int)), none), ff 76], []⟩ [((.exit 0), ⟨[U, U, (.ptr 0 1 0 0), U, U, bf, bf, bf, bf, bf, bf, bt, U, U, U, U, U, U, U, U, U, U, U, U, U, U, U, U, U, U, U, U, U, U, U, U, U, U, U, U, U, U, U, U, U, U, U, U, U, U, U, U, U, U, U, U, U, U, U, U, U, U, U, U, U, U, U, U, U, U, U, U, U, U, U, U, U, U, U, U, U, U, U, U, U, U, U, U, U, U, U, U, U, U, U], [(.blk 10 [(c_GEdit a2066)])]⟩)] [] rfl (W8 g2089 g2083 g2082 g2079 g2076 g2073 g2071 g2070 Z0) (by kernel_rfl)
  have g2085 := bool_eq h2084
  rcases cnd_or h with ⟨h2086, h⟩ | ⟨h2086, h⟩
  ·have g2087 := c_str_eql (P := PP) (cf := evF PP T n) (fl := 0) (H := [(.blk 10 [(c_GEdit a2066)])]) (t := 9) h2086
   cases h
   exact pv_z (F := F11) ⟨[ff 42, ff 50, ff 59, ff 68, (75, (iv ((a2066.Via.length : Nat) : Int)), none), tt 76, tt 83], []⟩ [((.exit 0), ⟨[U, U, (.ptr 0 1 0 0), U, U, bf, bf, bf, bf, bf, bf, bt, U, U, U, U, U, U, U, U, U, U, U, U, U, U, U, U, U, U, U, U, U, U, U, U, U, U, U, U, U, U, U, U, U, U, U, U, U, U, U, U, U, U, U, U, U, U, U, U, U, U, U, U, U, U, U, U, U, U, U, U, U, U, U, U, U, U, U, U, U, U, U, U, U, U, U, U, U, U, U, U, U, U, U], [(.blk 10 [(c_GEdit a2066)])]⟩)] [] rfl (W8 g2087 g2085 g2083 g2082 g2079 g2076 g2073 g2071 <| Z g2070 Z0) (by kernel_rfl)
  have g2088 := c_str_eql (P := PP) (cf := evF PP T n) (fl := 0) (H := [(.blk 10 [(c_GEdit a2066)])]) (t := 9) h2086
  cases h
  exact pv_z (F := F11) ⟨[ff 42, ff 50, ff 59, ff 68, (75, (iv ((a2066.Via.length : Nat) : Int)), none), tt 76, ff 83], []⟩ [((.exit 0), ⟨[U, U, (.ptr 0 1 0 0), U, U, bf, bf, bf, bf, bf, bf, bt, U, U, U, U, U, U, U, U, U, U, U, U, U, U, U, U, U, U, U, U, U, U, U, U, U, U, U, U, U, U, U, U, U, U, U, U, U, U, U, U, U, U, U, U, U, U, U, U, U, U, U, U, U, U, U, U, U, U, U, U, U, U, U, U, U, U, U, U, U, U, U, U, U, U, U, U, U, U, U, U, U, U, U], [(.blk 10 [(c_GEdit a2066)])]⟩)] [] rfl (W8 g2088 g2085 g2083 g2082 g2079 g2076 g2073 g2071 <| Z g2070 Z0) (by kernel_rfl)
def f11_8 : Nat → GEdit → Option Bool
 | 0, _ => none
 | n + 1, a2091 => (bnd (prdk 2 n) fun n2092 => (cnd (decide (a2091.At = (GPoint.mk 0 0))) (cnd (a2091.B != 0) (some false) (cnd (a2091.C != 0) (some false) (cnd (((a2091.Via.length : Nat) : Int) == 0) (cnd (decide (a2091.Name = (⟨#[]⟩ : ByteArray))) (cnd (((a2091.Parts.length : Nat) : Int) == 0) (some true) (some false)) (some false)) (some false)))) (some false)))
theorem f11_8_ok (n : Nat) (a2091 : GEdit) (r : Bool) (h : f11_8 n a2091 = some r) : pv PP T n 11 [(.agg (c_GEdit a2091)), (sv (⟨#[97]⟩))] = some (bv r) := by
 cases n with
 | zero => cases h
 | succ n =>
  rw [f11_8] at h
  obtain ⟨n2092, e2093, h⟩ := bnd_some h
  have q2094 := prdk_eq e2093
  have g2095 : cleanQ false 0 1 [(.blk 10 [(c_GEdit a2091)])] := trivial
  have g2096 : maskR [false, false, true, false, false, true, true, true, true, true, true, true] [false, false, false, false, true] false 0 1 (evLoopH (headSt (some [false, true, true, false, false, true, true, true, true, true, true, true, true]) false 0 1) (evC PP (evF PP T n) n 0 L11_0) n ⟨[U, (sv (⟨#[97]⟩)), (.ptr 0 1 0 0), U, U, bf, bf, bf, bf, bf, bf, bf, (iv 0), U, U, U, U, U, U, U, U, U, U, U, U, U, U, U, U, U, U, U, U, U, U, U, U, U, U, U, U, U, U, U, U, U, U, U, U, U, U, U, U, U, U, U, U, U, U, U, U, U, U, U, U, U, U, U, U, U, U, U, U, U, U, U, U, U, U, U, U, U, U, U, U, U, U, U, U, U, U, U, U, U, U], [(.blk 10 [(c_GEdit a2091)])]⟩) = some ((.exit 0), ⟨[U, U, (.ptr 0 1 0 0), U, U, bf, bt, bf, bf, bf, bf, bf, U, U, U, U, U, U, U, U, U, U, U, U, U, U, U, U, U, U, U, U, U, U, U, U, U, U, U, U, U, U, U, U, U, U, U, U, U, U, U, U, U, U, U, U, U, U, U, U, U, U, U, U, U, U, U, U, U, U, U, U, U, U, U, U, U, U, U, U, U, U, U, U, U, U, U, U, U, U, U, U, U, U, U], [(.blk 10 [(c_GEdit a2091)])]⟩) := by rw [q2094]; kernel_rfl
  rcases cnd_or h with ⟨h2097, h⟩ | ⟨h2097, h⟩
  rotate_left
  ·have g2116 := c_GPoint_neq (cf := evF PP T n) (fl := 0) (H := [(.blk 10 [(c_GEdit a2091)])]) (a := a2091.At) (b := (GPoint.mk 0 0)) h2097
   cases h
   exact pv_z (F := F11) ⟨[tt 42], []⟩ [((.exit 0), ⟨[U, U, (.ptr 0 1 0 0), U, U, bf, bt, bf, bf, bf, bf, bf, U, U, U, U, U, U, U, U, U, U, U, U, U, U, U, U, U, U, U, U, U, U, U, U, U, U, U, U, U, U, U, U, U, U, U, U, U, U, U, U, U, U, U, U, U, U, U, U, U, U, U, U, U, U, U, U, U, U, U, U, U, U, U, U, U, U, U, U, U, U, U, U, U, U, U, U, U, U, U, U, U, U, U], [(.blk 10 [(c_GEdit a2091)])]⟩)] [] rfl (W2 g2116 g2096 <| Z g2095 Z0) (by kernel_rfl)
  have g2098 := c_GPoint_neq (cf := evF PP T n) (fl := 0) (H := [(.blk 10 [(c_GEdit a2091)])]) (a := a2091.At) (b := (GPoint.mk 0 0)) h2097
  rcases cnd_or h with ⟨h2099, h⟩ | ⟨h2099, h⟩
  ·have g2100 := bool_eq h2099
   cases h
   exact pv_z (F := F11) ⟨[ff 42, tt 59], []⟩ [((.exit 0), ⟨[U, U, (.ptr 0 1 0 0), U, U, bf, bt, bf, bf, bf, bf, bf, U, U, U, U, U, U, U, U, U, U, U, U, U, U, U, U, U, U, U, U, U, U, U, U, U, U, U, U, U, U, U, U, U, U, U, U, U, U, U, U, U, U, U, U, U, U, U, U, U, U, U, U, U, U, U, U, U, U, U, U, U, U, U, U, U, U, U, U, U, U, U, U, U, U, U, U, U, U, U, U, U, U, U], [(.blk 10 [(c_GEdit a2091)])]⟩)] [] rfl (W4 g2100 g2098 g2096 g2095 Z0) (by kernel_rfl)
  have g2101 := bool_eq h2099
  rcases cnd_or h with ⟨h2102, h⟩ | ⟨h2102, h⟩
  ·have g2103 := bool_eq h2102
   cases h
   exact pv_z (F := F11) ⟨[ff 42, ff 59, tt 68], []⟩ [((.exit 0), ⟨[U, U, (.ptr 0 1 0 0), U, U, bf, bt, bf, bf, bf, bf, bf, U, U, U, U, U, U, U, U, U, U, U, U, U, U, U, U, U, U, U, U, U, U, U, U, U, U, U, U, U, U, U, U, U, U, U, U, U, U, U, U, U, U, U, U, U, U, U, U, U, U, U, U, U, U, U, U, U, U, U, U, U, U, U, U, U, U, U, U, U, U, U, U, U, U, U, U, U, U, U, U, U, U, U], [(.blk 10 [(c_GEdit a2091)])]⟩)] [] rfl (W4 g2103 g2101 g2098 g2096 <| Z g2095 Z0) (by kernel_rfl)
  have g2104 := bool_eq h2102
  have g2105 := len_sl (P := PP) (cf := evF PP T n) (fl := 0) (H := [(.blk 10 [(c_GEdit a2091)])]) (f := false) (c := c_GPoint) (l := a2091.Via)
  rcases cnd_or h with ⟨h2106, h⟩ | ⟨h2106, h⟩
  rotate_left
  ·have g2115 := bool_eq h2106
   cases h
   exact pv_z (F := F11) ⟨[ff 42, ff 59, ff 68, (75, (iv ((a2091.Via.length : Nat) : Int)), none), ff 76], []⟩ [((.exit 0), ⟨[U, U, (.ptr 0 1 0 0), U, U, bf, bt, bf, bf, bf, bf, bf, U, U, U, U, U, U, U, U, U, U, U, U, U, U, U, U, U, U, U, U, U, U, U, U, U, U, U, U, U, U, U, U, U, U, U, U, U, U, U, U, U, U, U, U, U, U, U, U, U, U, U, U, U, U, U, U, U, U, U, U, U, U, U, U, U, U, U, U, U, U, U, U, U, U, U, U, U, U, U, U, U, U, U], [(.blk 10 [(c_GEdit a2091)])]⟩)] [] rfl (W4 g2115 g2105 g2104 g2101 <| W2 g2098 g2096 <| Z g2095 Z0) (by kernel_rfl)
  have g2107 := bool_eq h2106
  rcases cnd_or h with ⟨h2108, h⟩ | ⟨h2108, h⟩
  rotate_left
  ·have g2114 := c_str_eql (P := PP) (cf := evF PP T n) (fl := 0) (H := [(.blk 10 [(c_GEdit a2091)])]) (t := 9) h2108
   cases h
   exact pv_z (F := F11) ⟨[ff 42, ff 59, ff 68, (75, (iv ((a2091.Via.length : Nat) : Int)), none), tt 76, ff 83], []⟩ [((.exit 0), ⟨[U, U, (.ptr 0 1 0 0), U, U, bf, bt, bf, bf, bf, bf, bf, U, U, U, U, U, U, U, U, U, U, U, U, U, U, U, U, U, U, U, U, U, U, U, U, U, U, U, U, U, U, U, U, U, U, U, U, U, U, U, U, U, U, U, U, U, U, U, U, U, U, U, U, U, U, U, U, U, U, U, U, U, U, U, U, U, U, U, U, U, U, U, U, U, U, U, U, U, U, U, U, U, U, U], [(.blk 10 [(c_GEdit a2091)])]⟩)] [] rfl (W8 g2114 g2107 g2105 g2104 g2101 g2098 g2096 g2095 Z0) (by kernel_rfl)
  have g2109 := c_str_eql (P := PP) (cf := evF PP T n) (fl := 0) (H := [(.blk 10 [(c_GEdit a2091)])]) (t := 9) h2108
  have g2110 := len_sl (P := PP) (cf := evF PP T n) (fl := 0) (H := [(.blk 10 [(c_GEdit a2091)])]) (f := false) (c := c_i64) (l := a2091.Parts)
  rcases cnd_or h with ⟨h2111, h⟩ | ⟨h2111, h⟩
  ·have g2112 := bool_eq h2111
   cases h
   exact pv_z (F := F11) ⟨[ff 42, ff 59, ff 68, (75, (iv ((a2091.Via.length : Nat) : Int)), none), tt 76, tt 83, (91, (iv ((a2091.Parts.length : Nat) : Int)), none), tt 92], []⟩ [((.exit 0), ⟨[U, U, (.ptr 0 1 0 0), U, U, bf, bt, bf, bf, bf, bf, bf, U, U, U, U, U, U, U, U, U, U, U, U, U, U, U, U, U, U, U, U, U, U, U, U, U, U, U, U, U, U, U, U, U, U, U, U, U, U, U, U, U, U, U, U, U, U, U, U, U, U, U, U, U, U, U, U, U, U, U, U, U, U, U, U, U, U, U, U, U, U, U, U, U, U, U, U, U, U, U, U, U, U, U], [(.blk 10 [(c_GEdit a2091)])]⟩)] [] rfl (W8 g2112 g2110 g2109 g2107 g2105 g2104 g2101 g2098 <| W2 g2096 g2095 Z0) (by kernel_rfl)
  have g2113 := bool_eq h2111
  cases h
  exact pv_z (F := F11) ⟨[ff 42, ff 59, ff 68, (75, (iv ((a2091.Via.length : Nat) : Int)), none), tt 76, tt 83, (91, (iv ((a2091.Parts.length : Nat) : Int)), none), ff 92], []⟩ [((.exit 0), ⟨[U, U, (.ptr 0 1 0 0), U, U, bf, bt, bf, bf, bf, bf, bf, U, U, U, U, U, U, U, U, U, U, U, U, U, U, U, U, U, U, U, U, U, U, U, U, U, U, U, U, U, U, U, U, U, U, U, U, U, U, U, U, U, U, U, U, U, U, U, U, U, U, U, U, U, U, U, U, U, U, U, U, U, U, U, U, U, U, U, U, U, U, U, U, U, U, U, U, U, U, U, U, U, U, U], [(.blk 10 [(c_GEdit a2091)])]⟩)] [] rfl (W8 g2113 g2110 g2109 g2107 g2105 g2104 g2101 g2098 <| W2 g2096 g2095 Z0) (by kernel_rfl)
def f11 (n : Nat) (x : GEdit) (s : ByteArray) : Option Bool := if s = ⟨#[]⟩ then f11_0 n x else if s = ⟨#[116]⟩ then f11_1 n x else if s = ⟨#[97, 98, 99, 118]⟩ then f11_2 n x else if s = ⟨#[118]⟩ then f11_3 n x else if s = ⟨#[97, 98, 110, 112]⟩ then f11_4 n x else if s = ⟨#[110]⟩ then f11_5 n x else if s = ⟨#[98]⟩ then f11_6 n x else if s = ⟨#[112]⟩ then f11_7 n x else if s = ⟨#[97]⟩ then f11_8 n x else none
theorem f11_ok (n : Nat) (x : GEdit) (s : ByteArray) (r : Bool) (h : f11 n x s = some r) : pv PP T n 11 [.agg (c_GEdit x), sv s] = some (bv r) := by
 unfold f11 at h
 split at h
 ·rename_i e; subst e; exact f11_0_ok n x r h
 split at h
 ·rename_i e; subst e; exact f11_1_ok n x r h
 split at h
 ·rename_i e; subst e; exact f11_2_ok n x r h
 split at h
 ·rename_i e; subst e; exact f11_3_ok n x r h
 split at h
 ·rename_i e; subst e; exact f11_4_ok n x r h
 split at h
 ·rename_i e; subst e; exact f11_5_ok n x r h
 split at h
 ·rename_i e; subst e; exact f11_6_ok n x r h
 split at h
 ·rename_i e; subst e; exact f11_7_ok n x r h
 split at h
 ·rename_i e; subst e; exact f11_8_ok n x r h
 cases h
def f27 : Nat → Int → Option Bool
 | 0, _ => none
 | n + 1, a2117 => (cnd (decide (a2117 ≥ 1)) (cnd (decide (a2117 ≤ 1073741824)) (some true) (some false)) (some false))
theorem f27_ok (n : Nat) (a2117 : Int) (r : Bool) (h : f27 n a2117 = some r) : pv PP T n 27 [(iv a2117)] = some (bv r) := by
 cases n with
 | zero => cases h
 | succ n =>
  rw [f27] at h
  rcases cnd_or h with ⟨h2118, h⟩ | ⟨h2118, h⟩
  rotate_left
  ·have g2123 := bool_eq h2118
   cases h
   exact pz F27 ⟨[ff 4], []⟩ (Z g2123 Z0)
  have g2119 := bool_eq h2118
  rcases cnd_or h with ⟨h2120, h⟩ | ⟨h2120, h⟩
  ·have g2121 := bool_eq h2120
   cases h
   exact pz F27 ⟨[tt 4, tt 7], []⟩ (W2 g2121 g2119 Z0)
  have g2122 := bool_eq h2120
  cases h
  exact pz F27 ⟨[tt 4, ff 7], []⟩ (W2 g2122 g2119 Z0)
def f28 : Nat → GPoint → Option Bool
 | 0, _ => none
 | n + 1, a2124 => (cnd (decide (a2124.X ≥ (-1048576))) (cnd (decide (a2124.X ≤ 1048576)) (cnd (decide (a2124.Y ≥ (-1048576))) (cnd (decide (a2124.Y ≤ 1048576)) (some true) (some false)) (some false)) (some false)) (some false))
theorem f28_ok (n : Nat) (a2124 : GPoint) (r : Bool) (h : f28 n a2124 = some r) : pv PP T n 28 [(.agg (c_GPoint a2124))] = some (bv r) := by
 cases n with
 | zero => cases h
 | succ n =>
  rw [f28] at h
  rcases cnd_or h with ⟨h2125, h⟩ | ⟨h2125, h⟩
  rotate_left
  ·have g2136 := bool_eq h2125
   cases h
   exact pz F28 ⟨[ff 5], []⟩ (Z g2136 Z0)
  have g2126 := bool_eq h2125
  rcases cnd_or h with ⟨h2127, h⟩ | ⟨h2127, h⟩
  rotate_left
  ·have g2135 := bool_eq h2127
   cases h
   exact pz F28 ⟨[tt 5, ff 9], []⟩ (W2 g2135 g2126 Z0)
  have g2128 := bool_eq h2127
  rcases cnd_or h with ⟨h2129, h⟩ | ⟨h2129, h⟩
  rotate_left
  ·have g2134 := bool_eq h2129
   cases h
   exact pz F28 ⟨[tt 5, tt 9, ff 14], []⟩ (W2 g2134 g2128 <| Z g2126 Z0)
  have g2130 := bool_eq h2129
  rcases cnd_or h with ⟨h2131, h⟩ | ⟨h2131, h⟩
  ·have g2132 := bool_eq h2131
   cases h
   exact pz F28 ⟨[tt 5, tt 9, tt 14, tt 19], []⟩ (W4 g2132 g2130 g2128 g2126 Z0)
  have g2133 := bool_eq h2131
  cases h
  exact pz F28 ⟨[tt 5, tt 9, tt 14, ff 19], []⟩ (W4 g2133 g2130 g2128 g2126 Z0)
def f12_L0_S (a2137 : GEdit) (i2176 : Int) : St := ⟨[U, (.ptr 0 1 0 0), U, (iv i2176), U, U, U, U, U, U, U, U, U, U, U, U, U, U, U, U, U, U, U, U, U, U, U, U, U, U, U, U, U, U, U, U, U, U, U, U, U, U, U, U, U, U, U, U, U, U, U, U, U, U, U, U, U, U, U, U, U, U, U, U, U, U, U, U, U, U, U, U, U, U, U, U, U, U, U, U, U, U, U, U, U, U, U, U, U, U, U, U, U, U, U, U], [(.blk 10 [(c_GEdit a2137)])]⟩
def f12_L0_E0 (a2137 : GEdit) : St := ⟨[U, U, bf, U, U, U, U, U, U, U, U, U, U, U, U, U, U, U, U, U, U, U, U, U, U, U, U, U, U, U, U, U, U, U, U, U, U, U, U, U, U, U, U, U, U, U, U, U, U, U, U, U, U, U, U, U, U, U, U, U, U, U, U, U, U, U, U, U, U, U, U, U, U, U, U, U, U, U, U, U, U, U, U, U, U, U, U, U, U, U, U, U, U, U, U, U], [(.blk 10 [(c_GEdit a2137)])]⟩
def f12_L0_E1 (a2137 : GEdit) : St := ⟨[U, (.ptr 0 1 0 0), U, U, U, U, U, U, U, U, U, U, U, U, U, U, U, U, U, U, U, U, U, U, U, U, U, U, U, U, U, U, U, U, U, U, U, U, U, U, U, U, U, U, U, U, U, U, U, U, U, U, U, U, U, U, U, U, U, U, U, U, U, U, U, U, U, U, U, U, U, U, U, U, U, U, U, U, U, U, U, U, U, U, U, U, U, U, U, U, U, U, U, U, U, U], [(.blk 10 [(c_GEdit a2137)])]⟩
def f12_L0 (n : Nat) (a2137 : GEdit) : Nat → Int → Option (Unit ⊕ Unit)
 | 0, _ => none
 | m + 1, i2176 => (cnd (decide (i2176 < ((a2137.Via.length : Nat) : Int))) (bnd (idx a2137.Via i2176) fun x2192 => (bnd (f28 n x2192) fun v2195 => (cnd (v2195) (f12_L0 n a2137 m (IntKind.i64.wrap (i2176 + 1))) (some (Sum.inl ()))))) (some (Sum.inr ())))
theorem f12_L0_ok (n : Nat) (a2137 : GEdit) : ∀ (m : Nat) (i2176 : Int) (r : (Unit ⊕ Unit)), f12_L0 n a2137 m i2176 = some r → maskR [false, true] [false, false, true] false 0 1 (evLoopH (headSt (some [false, true, false, true]) false 0 1) (evC PP (evF PP T n) n 0 L12_0) m (f12_L0_S a2137 i2176)) = (match r with | .inl r => some (.ret, f12_L0_E0 a2137) | .inr r => some ((.exit 0), f12_L0_E1 a2137))
 | 0, _, _, h => by cases h
 | m + 1, i2176, r, h => by
  rw [f12_L0] at h
  have g2189 := len_sl (P := PP) (cf := evF PP T n) (fl := 0) (H := [(.blk 10 [(c_GEdit a2137)])]) (f := false) (c := c_GPoint) (l := a2137.Via)
  rcases cnd_or h with ⟨h2190, h⟩ | ⟨h2190, h⟩
  rotate_left
  ·have g2200 := bool_eq h2190
   cases h
   exact last_z (live := some [false, true, false, true]) (tr' := false) (st' := f12_L0_E1 a2137) ⟨[(68, (iv ((a2137.Via.length : Nat) : Int)), none), ff 69], []⟩ [] [] rfl (W2 g2200 g2189 Z0) (by kernel_rfl) trivial
  have g2191 := bool_eq h2190
  obtain ⟨x2192, e2193, h⟩ := bnd_some h
  have g2194 := idxl (H := [(.blk 10 [(c_GEdit a2137)])]) (f := false) (c := c_GPoint) e2193 (c_GPoint_len _)
  obtain ⟨v2195, e2196, h⟩ := bnd_some h
  rcases cnd_or h with ⟨h2197, h⟩ | ⟨h2197, h⟩
  rotate_left
  ·have g2199 := by have q := f28_ok n x2192 _ e2196; rw [h2197] at q; exact q
   cases h
   exact last_z (live := some [false, true, false, true]) (tr' := false) (st' := f12_L0_E0 a2137) ⟨[(68, (iv ((a2137.Via.length : Nat) : Int)), none), tt 69, (75, (.rptr [(iv x2192.X), (iv x2192.Y)]), none), ff 77], []⟩ [] [] rfl (W4 g2199 g2194 g2191 g2189 Z0) (by kernel_rfl) trivial
  have g2198 := by have q := f28_ok n x2192 _ e2196; rw [h2197] at q; exact q
  exact (congrArg (maskR [false, true] [false, false, true] false 0 1) (next_z (live := some [false, true, false, true]) (tr := false) (st' := f12_L0_S a2137 (IntKind.i64.wrap (i2176 + 1))) ⟨[(68, (iv ((a2137.Via.length : Nat) : Int)), none), tt 69, (75, (.rptr [(iv x2192.X), (iv x2192.Y)]), none), tt 77], []⟩ [] [] rfl (W4 g2198 g2194 g2191 g2189 Z0) (by kernel_rfl) trivial rfl)).trans (f12_L0_ok n a2137 m (IntKind.i64.wrap (i2176 + 1)) r h)
def f12_L1_S (a2137 : GEdit) (i2218 : Int) : St := ⟨[U, (.ptr 0 1 0 0), U, U, (iv i2218), U, U, U, U, U, U, U, U, U, U, U, U, U, U, U, U, U, U, U, U, U, U, U, U, U, U, U, U, U, U, U, U, U, U, U, U, U, U, U, U, U, U, U, U, U, U, U, U, U, U, U, U, U, U, U, U, U, U, U, U, U, U, U, U, U, U, U, U, U, U, U, U, U, U, U, U, U, U, U, U, U, U, U, U, U, U, U, U, U, U, U], [(.blk 10 [(c_GEdit a2137)])]⟩
def f12_L1_E0 (a2137 : GEdit) : St := ⟨[U, U, bf, U, U, U, U, U, U, U, U, U, U, U, U, U, U, U, U, U, U, U, U, U, U, U, U, U, U, U, U, U, U, U, U, U, U, U, U, U, U, U, U, U, U, U, U, U, U, U, U, U, U, U, U, U, U, U, U, U, U, U, U, U, U, U, U, U, U, U, U, U, U, U, U, U, U, U, U, U, U, U, U, U, U, U, U, U, U, U, U, U, U, U, U, U], [(.blk 10 [(c_GEdit a2137)])]⟩
def f12_L1_E1 (a2137 : GEdit) : St := ⟨[U, (.ptr 0 1 0 0), U, U, U, U, U, U, U, U, U, U, U, U, U, U, U, U, U, U, U, U, U, U, U, U, U, U, U, U, U, U, U, U, U, U, U, U, U, U, U, U, U, U, U, U, U, U, U, U, U, U, U, U, U, U, U, U, U, U, U, U, U, U, U, U, U, U, U, U, U, U, U, U, U, U, U, U, U, U, U, U, U, U, U, U, U, U, U, U, U, U, U, U, U, U], [(.blk 10 [(c_GEdit a2137)])]⟩
def f12_L1 (n : Nat) (a2137 : GEdit) : Nat → Int → Option (Unit ⊕ Unit)
 | 0, _ => none
 | m + 1, i2218 => (cnd (decide (i2218 < ((a2137.Parts.length : Nat) : Int))) (bnd (idx a2137.Parts i2218) fun x2234 => (bnd (f27 n x2234) fun v2237 => (cnd (v2237) (f12_L1 n a2137 m (IntKind.i64.wrap (i2218 + 1))) (some (Sum.inl ()))))) (some (Sum.inr ())))
theorem f12_L1_ok (n : Nat) (a2137 : GEdit) : ∀ (m : Nat) (i2218 : Int) (r : (Unit ⊕ Unit)), f12_L1 n a2137 m i2218 = some r → maskR [false, true] [false, false, true] false 0 1 (evLoopH (headSt (some [false, true, false, false, true]) false 0 1) (evC PP (evF PP T n) n 0 L12_1) m (f12_L1_S a2137 i2218)) = (match r with | .inl r => some (.ret, f12_L1_E0 a2137) | .inr r => some ((.exit 2), f12_L1_E1 a2137))
 | 0, _, _, h => by cases h
 | m + 1, i2218, r, h => by
  rw [f12_L1] at h
  have g2231 := len_sl (P := PP) (cf := evF PP T n) (fl := 0) (H := [(.blk 10 [(c_GEdit a2137)])]) (f := false) (c := c_i64) (l := a2137.Parts)
  rcases cnd_or h with ⟨h2232, h⟩ | ⟨h2232, h⟩
  rotate_left
  ·have g2242 := bool_eq h2232
   cases h
   exact last_z (live := some [false, true, false, false, true]) (tr' := false) (st' := f12_L1_E1 a2137) ⟨[(82, (iv ((a2137.Parts.length : Nat) : Int)), none), ff 83], []⟩ [] [] rfl (W2 g2242 g2231 Z0) (by kernel_rfl) trivial
  have g2233 := bool_eq h2232
  obtain ⟨x2234, e2235, h⟩ := bnd_some h
  have g2236 := idxl (H := [(.blk 10 [(c_GEdit a2137)])]) (f := false) (c := c_i64) e2235 (c_i64_len _)
  obtain ⟨v2237, e2238, h⟩ := bnd_some h
  rcases cnd_or h with ⟨h2239, h⟩ | ⟨h2239, h⟩
  rotate_left
  ·have g2241 := by have q := f27_ok n x2234 _ e2238; rw [h2239] at q; exact q
   cases h
   exact last_z (live := some [false, true, false, false, true]) (tr' := false) (st' := f12_L1_E0 a2137) ⟨[(82, (iv ((a2137.Parts.length : Nat) : Int)), none), tt 83, (89, (.rptr [(iv x2234)]), none), ff 91], []⟩ [] [] rfl (W4 g2241 g2236 g2233 g2231 Z0) (by kernel_rfl) trivial
  have g2240 := by have q := f27_ok n x2234 _ e2238; rw [h2239] at q; exact q
  exact (congrArg (maskR [false, true] [false, false, true] false 0 1) (next_z (live := some [false, true, false, false, true]) (tr := false) (st' := f12_L1_S a2137 (IntKind.i64.wrap (i2218 + 1))) ⟨[(82, (iv ((a2137.Parts.length : Nat) : Int)), none), tt 83, (89, (.rptr [(iv x2234)]), none), tt 91], []⟩ [] [] rfl (W4 g2240 g2236 g2233 g2231 Z0) (by kernel_rfl) trivial rfl)).trans (f12_L1_ok n a2137 m (IntKind.i64.wrap (i2218 + 1)) r h)
def f12 : Nat → GEdit → Option Bool
 | 0, _ => none
 | n + 1, a2137 => (bnd (f27 n a2137.ID) fun v2138 => (cnd (v2138) (cnd (a2137.Kind == 4) (bnd (f27 n a2137.A) fun v2144 => (cnd (v2144) (bnd (f27 n a2137.B) fun v2148 => (cnd (v2148) (cnd (decide (a2137.C < (-1073741824))) (some false) (cnd (decide (a2137.C > 1073741824)) (some false) (bnd2 (f12_L0 n a2137 n 0) (fun v2204 => (some false)) (fun v2205 => (bnd2 (f12_L1 n a2137 n 0) (fun v2246 => (some false)) (fun v2247 => (bnd (f28 n a2137.At) fun v2248 => (cnd (v2248) (some true) (some false))))))))) (some false))) (some false))) (cnd (a2137.Kind == 12) (bnd (f27 n a2137.A) fun v2258 => (cnd (v2258) (cnd (decide (a2137.C < (-1073741824))) (some false) (cnd (decide (a2137.C > 1073741824)) (some false) (bnd2 (f12_L0 n a2137 n 0) (fun v2300 => (some false)) (fun v2301 => (bnd2 (f12_L1 n a2137 n 0) (fun v2330 => (some false)) (fun v2331 => (bnd (f28 n a2137.At) fun v2332 => (cnd (v2332) (some true) (some false))))))))) (some false))) (cnd (decide (a2137.C < (-1073741824))) (some false) (cnd (decide (a2137.C > 1073741824)) (some false) (cnd (a2137.Kind == 7) (cnd (decide (a2137.B < 1)) (some false) (cnd (decide (a2137.B > 9)) (some false) (bnd2 (f12_L0 n a2137 n 0) (fun v2381 => (some false)) (fun v2382 => (bnd2 (f12_L1 n a2137 n 0) (fun v2411 => (some false)) (fun v2412 => (bnd (f28 n a2137.At) fun v2413 => (cnd (v2413) (some true) (some false))))))))) (cnd (a2137.Kind == 10) (cnd (decide (a2137.B < 1)) (some false) (cnd (decide (a2137.B > 9)) (some false) (bnd2 (f12_L0 n a2137 n 0) (fun v2455 => (some false)) (fun v2456 => (bnd2 (f12_L1 n a2137 n 0) (fun v2485 => (some false)) (fun v2486 => (bnd (f28 n a2137.At) fun v2487 => (cnd (v2487) (some true) (some false))))))))) (bnd2 (f12_L0 n a2137 n 0) (fun v2521 => (some false)) (fun v2522 => (bnd2 (f12_L1 n a2137 n 0) (fun v2551 => (some false)) (fun v2552 => (bnd (f28 n a2137.At) fun v2553 => (cnd (v2553) (some true) (some false))))))))))))) (some false)))
theorem f12_ok (n : Nat) (a2137 : GEdit) (r : Bool) (h : f12 n a2137 = some r) : pv PP T n 12 [(.agg (c_GEdit a2137))] = some (bv r) := by
 cases n with
 | zero => cases h
 | succ n =>
  rw [f12] at h
  obtain ⟨v2138, e2139, h⟩ := bnd_some h
  rcases cnd_or h with ⟨h2140, h⟩ | ⟨h2140, h⟩
  rotate_left
  ·have g2558 := by have q := f27_ok n a2137.ID _ e2139; rw [h2140] at q; exact q
   cases h
   exact pz F12 ⟨[ff 7], []⟩ (Z g2558 Z0)
  have g2141 := by have q := f27_ok n a2137.ID _ e2139; rw [h2140] at q; exact q
  rcases cnd_or h with ⟨h2142, h⟩ | ⟨h2142, h⟩
  ·have g2143 := bool_eq h2142
   obtain ⟨v2144, e2145, h⟩ := bnd_some h
   rcases cnd_or h with ⟨h2146, h⟩ | ⟨h2146, h⟩
   rotate_left
   ·have g2254 := by have q := f27_ok n a2137.A _ e2145; rw [h2146] at q; exact q
    cases h
    exact pz F12 ⟨[tt 7, tt 12, ff 16], []⟩ (W2 g2254 g2143 <| Z g2141 Z0)
   have g2147 := by have q := f27_ok n a2137.A _ e2145; rw [h2146] at q; exact q
   obtain ⟨v2148, e2149, h⟩ := bnd_some h
   rcases cnd_or h with ⟨h2150, h⟩ | ⟨h2150, h⟩
   rotate_left
   ·have g2253 := by have q := f27_ok n a2137.B _ e2149; rw [h2150] at q; exact q
    cases h
    exact pz F12 ⟨[tt 7, tt 12, tt 16, ff 21], []⟩ (W4 g2253 g2147 g2143 g2141 Z0)
   have g2151 := by have q := f27_ok n a2137.B _ e2149; rw [h2150] at q; exact q
   have h2152 : (a2137.Kind == 12) = false := by have q0 := eq_of_beq h2142; exact beq_eq_false_iff_ne.2 (by omega)
   have g2153 := bool_eq h2152
   rcases cnd_or h with ⟨h2154, h⟩ | ⟨h2154, h⟩
   ·have g2155 := bool_eq h2154
    cases h
    exact pz F12 ⟨[tt 7, tt 12, tt 16, tt 21, ff 29, tt 39], []⟩ (W4 g2155 g2153 g2151 g2147 <| W2 g2143 g2141 Z0)
   have g2156 := bool_eq h2154
   rcases cnd_or h with ⟨h2157, h⟩ | ⟨h2157, h⟩
   ·have g2158 := bool_eq h2157
    cases h
    exact pz F12 ⟨[tt 7, tt 12, tt 16, tt 21, ff 29, ff 39, tt 43], []⟩ (W4 g2158 g2156 g2153 g2151 <| W2 g2147 g2143 <| Z g2141 Z0)
   have g2159 := bool_eq h2157
   have h2160 : (a2137.Kind == 7) = false := by have q0 := eq_of_beq h2142; exact beq_eq_false_iff_ne.2 (by omega)
   have g2161 := bool_eq h2160
   have h2162 : (a2137.Kind == 10) = false := by have q0 := eq_of_beq h2142; exact beq_eq_false_iff_ne.2 (by omega)
   have g2163 := bool_eq h2162
   have g2201 : cleanQ false 0 1 [(.blk 10 [(c_GEdit a2137)])] := trivial
   rcases bnd2_some h with ⟨v2204, e2202, h⟩ | ⟨v2205, e2202, h⟩
   ·have g2203 := f12_L0_ok n a2137 n 0 _ e2202
    cases h
    exact pv_z (F := F12) ⟨[tt 7, tt 12, tt 16, tt 21, ff 29, ff 39, ff 43, ff 48, ff 52], []⟩ [(.ret, f12_L0_E0 a2137)] [] rfl (W8 g2203 g2201 g2163 g2161 g2159 g2156 g2153 g2151 <| W2 g2147 g2143 <| Z g2141 Z0) (by kernel_rfl)
   have g2203 := f12_L0_ok n a2137 n 0 _ e2202
   have g2243 : cleanQ false 0 1 [(.blk 10 [(c_GEdit a2137)])] := trivial
   rcases bnd2_some h with ⟨v2246, e2244, h⟩ | ⟨v2247, e2244, h⟩
   ·have g2245 := f12_L1_ok n a2137 n 0 _ e2244
    cases h
    exact pv_z (F := F12) ⟨[tt 7, tt 12, tt 16, tt 21, ff 29, ff 39, ff 43, ff 48, ff 52], []⟩ [((.exit 0), f12_L0_E1 a2137), (.ret, f12_L1_E0 a2137)] [] rfl (W8 g2245 g2243 g2203 g2201 g2163 g2161 g2159 g2156 <| W4 g2153 g2151 g2147 g2143 <| Z g2141 Z0) (by kernel_rfl)
   have g2245 := f12_L1_ok n a2137 n 0 _ e2244
   obtain ⟨v2248, e2249, h⟩ := bnd_some h
   rcases cnd_or h with ⟨h2250, h⟩ | ⟨h2250, h⟩
   ·have g2251 := by have q := f28_ok n a2137.At _ e2249; rw [h2250] at q; exact q
    cases h
    exact pv_z (F := F12) ⟨[tt 7, tt 12, tt 16, tt 21, ff 29, ff 39, ff 43, ff 48, ff 52, tt 95], []⟩ [((.exit 0), f12_L0_E1 a2137), ((.exit 2), f12_L1_E1 a2137)] [] rfl (W8 g2251 g2245 g2243 g2203 g2201 g2163 g2161 g2159 <| W4 g2156 g2153 g2151 g2147 <| W2 g2143 g2141 Z0) (by kernel_rfl)
   have g2252 := by have q := f28_ok n a2137.At _ e2249; rw [h2250] at q; exact q
   cases h
   exact pv_z (F := F12) ⟨[tt 7, tt 12, tt 16, tt 21, ff 29, ff 39, ff 43, ff 48, ff 52, ff 95], []⟩ [((.exit 0), f12_L0_E1 a2137), ((.exit 2), f12_L1_E1 a2137)] [] rfl (W8 g2252 g2245 g2243 g2203 g2201 g2163 g2161 g2159 <| W4 g2156 g2153 g2151 g2147 <| W2 g2143 g2141 Z0) (by kernel_rfl)
  have g2255 := bool_eq h2142
  rcases cnd_or h with ⟨h2256, h⟩ | ⟨h2256, h⟩
  ·have g2257 := bool_eq h2256
   obtain ⟨v2258, e2259, h⟩ := bnd_some h
   rcases cnd_or h with ⟨h2260, h⟩ | ⟨h2260, h⟩
   rotate_left
   ·have g2337 := by have q := f27_ok n a2137.A _ e2259; rw [h2260] at q; exact q
    cases h
    exact pz F12 ⟨[tt 7, ff 12, tt 29, ff 33], []⟩ (W4 g2337 g2257 g2255 g2141 Z0)
   have g2261 := by have q := f27_ok n a2137.A _ e2259; rw [h2260] at q; exact q
   rcases cnd_or h with ⟨h2262, h⟩ | ⟨h2262, h⟩
   ·have g2263 := bool_eq h2262
    cases h
    exact pz F12 ⟨[tt 7, ff 12, tt 29, tt 33, tt 39], []⟩ (W4 g2263 g2261 g2257 g2255 <| Z g2141 Z0)
   have g2264 := bool_eq h2262
   rcases cnd_or h with ⟨h2265, h⟩ | ⟨h2265, h⟩
   ·have g2266 := bool_eq h2265
    cases h
    exact pz F12 ⟨[tt 7, ff 12, tt 29, tt 33, ff 39, tt 43], []⟩ (W4 g2266 g2264 g2261 g2257 <| W2 g2255 g2141 Z0)
   have g2267 := bool_eq h2265
   have h2268 : (a2137.Kind == 7) = false := by have q0 := eq_of_beq h2256; exact beq_eq_false_iff_ne.2 (by omega)
   have g2269 := bool_eq h2268
   have h2270 : (a2137.Kind == 10) = false := by have q0 := eq_of_beq h2256; exact beq_eq_false_iff_ne.2 (by omega)
   have g2271 := bool_eq h2270
   have g2297 : cleanQ false 0 1 [(.blk 10 [(c_GEdit a2137)])] := trivial
   rcases bnd2_some h with ⟨v2300, e2298, h⟩ | ⟨v2301, e2298, h⟩
   ·have g2299 := f12_L0_ok n a2137 n 0 _ e2298
    cases h
    exact pv_z (F := F12) ⟨[tt 7, ff 12, tt 29, tt 33, ff 39, ff 43, ff 48, ff 52], []⟩ [(.ret, f12_L0_E0 a2137)] [] rfl (W8 g2299 g2297 g2271 g2269 g2267 g2264 g2261 g2257 <| W2 g2255 g2141 Z0) (by kernel_rfl)
   have g2299 := f12_L0_ok n a2137 n 0 _ e2298
   have g2327 : cleanQ false 0 1 [(.blk 10 [(c_GEdit a2137)])] := trivial
   rcases bnd2_some h with ⟨v2330, e2328, h⟩ | ⟨v2331, e2328, h⟩
   ·have g2329 := f12_L1_ok n a2137 n 0 _ e2328
    cases h
    exact pv_z (F := F12) ⟨[tt 7, ff 12, tt 29, tt 33, ff 39, ff 43, ff 48, ff 52], []⟩ [((.exit 0), f12_L0_E1 a2137), (.ret, f12_L1_E0 a2137)] [] rfl (W8 g2329 g2327 g2299 g2297 g2271 g2269 g2267 g2264 <| W4 g2261 g2257 g2255 g2141 Z0) (by kernel_rfl)
   have g2329 := f12_L1_ok n a2137 n 0 _ e2328
   obtain ⟨v2332, e2333, h⟩ := bnd_some h
   rcases cnd_or h with ⟨h2334, h⟩ | ⟨h2334, h⟩
   ·have g2335 := by have q := f28_ok n a2137.At _ e2333; rw [h2334] at q; exact q
    cases h
    exact pv_z (F := F12) ⟨[tt 7, ff 12, tt 29, tt 33, ff 39, ff 43, ff 48, ff 52, tt 95], []⟩ [((.exit 0), f12_L0_E1 a2137), ((.exit 2), f12_L1_E1 a2137)] [] rfl (W8 g2335 g2329 g2327 g2299 g2297 g2271 g2269 g2267 <| W4 g2264 g2261 g2257 g2255 <| Z g2141 Z0) (by kernel_rfl)
   have g2336 := by have q := f28_ok n a2137.At _ e2333; rw [h2334] at q; exact q
   cases h
   exact pv_z (F := F12) ⟨[tt 7, ff 12, tt 29, tt 33, ff 39, ff 43, ff 48, ff 52, ff 95], []⟩ [((.exit 0), f12_L0_E1 a2137), ((.exit 2), f12_L1_E1 a2137)] [] rfl (W8 g2336 g2329 g2327 g2299 g2297 g2271 g2269 g2267 <| W4 g2264 g2261 g2257 g2255 <| Z g2141 Z0) (by kernel_rfl)
  have g2338 := bool_eq h2256
  rcases cnd_or h with ⟨h2339, h⟩ | ⟨h2339, h⟩
  ·have g2340 := bool_eq h2339
   cases h
   exact pz F12 ⟨[tt 7, ff 12, ff 29, tt 39], []⟩ (W4 g2340 g2338 g2255 g2141 Z0)
  have g2341 := bool_eq h2339
  rcases cnd_or h with ⟨h2342, h⟩ | ⟨h2342, h⟩
  ·have g2343 := bool_eq h2342
   cases h
   exact pz F12 ⟨[tt 7, ff 12, ff 29, ff 39, tt 43], []⟩ (W4 g2343 g2341 g2338 g2255 <| Z g2141 Z0)
  have g2344 := bool_eq h2342
  rcases cnd_or h with ⟨h2345, h⟩ | ⟨h2345, h⟩
  ·have g2346 := bool_eq h2345
   rcases cnd_or h with ⟨h2347, h⟩ | ⟨h2347, h⟩
   ·have g2348 := bool_eq h2347
    cases h
    exact pz F12 ⟨[tt 7, ff 12, ff 29, ff 39, ff 43, tt 48, tt 57], []⟩ (W4 g2348 g2346 g2344 g2341 <| W2 g2338 g2255 <| Z g2141 Z0)
   have g2349 := bool_eq h2347
   rcases cnd_or h with ⟨h2350, h⟩ | ⟨h2350, h⟩
   ·have g2351 := bool_eq h2350
    cases h
    exact pz F12 ⟨[tt 7, ff 12, ff 29, ff 39, ff 43, tt 48, ff 57, tt 61], []⟩ (W8 g2351 g2349 g2346 g2344 g2341 g2338 g2255 g2141 Z0)
   have g2352 := bool_eq h2350
   have g2378 : cleanQ false 0 1 [(.blk 10 [(c_GEdit a2137)])] := trivial
   rcases bnd2_some h with ⟨v2381, e2379, h⟩ | ⟨v2382, e2379, h⟩
   ·have g2380 := f12_L0_ok n a2137 n 0 _ e2379
    cases h
    exact pv_z (F := F12) ⟨[tt 7, ff 12, ff 29, ff 39, ff 43, tt 48, ff 57, ff 61], []⟩ [(.ret, f12_L0_E0 a2137)] [] rfl (W8 g2380 g2378 g2352 g2349 g2346 g2344 g2341 g2338 <| W2 g2255 g2141 Z0) (by kernel_rfl)
   have g2380 := f12_L0_ok n a2137 n 0 _ e2379
   have g2408 : cleanQ false 0 1 [(.blk 10 [(c_GEdit a2137)])] := trivial
   rcases bnd2_some h with ⟨v2411, e2409, h⟩ | ⟨v2412, e2409, h⟩
   ·have g2410 := f12_L1_ok n a2137 n 0 _ e2409
    cases h
    exact pv_z (F := F12) ⟨[tt 7, ff 12, ff 29, ff 39, ff 43, tt 48, ff 57, ff 61], []⟩ [((.exit 0), f12_L0_E1 a2137), (.ret, f12_L1_E0 a2137)] [] rfl (W8 g2410 g2408 g2380 g2378 g2352 g2349 g2346 g2344 <| W4 g2341 g2338 g2255 g2141 Z0) (by kernel_rfl)
   have g2410 := f12_L1_ok n a2137 n 0 _ e2409
   obtain ⟨v2413, e2414, h⟩ := bnd_some h
   rcases cnd_or h with ⟨h2415, h⟩ | ⟨h2415, h⟩
   ·have g2416 := by have q := f28_ok n a2137.At _ e2414; rw [h2415] at q; exact q
    cases h
    exact pv_z (F := F12) ⟨[tt 7, ff 12, ff 29, ff 39, ff 43, tt 48, ff 57, ff 61, tt 95], []⟩ [((.exit 0), f12_L0_E1 a2137), ((.exit 2), f12_L1_E1 a2137)] [] rfl (W8 g2416 g2410 g2408 g2380 g2378 g2352 g2349 g2346 <| W4 g2344 g2341 g2338 g2255 <| Z g2141 Z0) (by kernel_rfl)
   have g2417 := by have q := f28_ok n a2137.At _ e2414; rw [h2415] at q; exact q
   cases h
   exact pv_z (F := F12) ⟨[tt 7, ff 12, ff 29, ff 39, ff 43, tt 48, ff 57, ff 61, ff 95], []⟩ [((.exit 0), f12_L0_E1 a2137), ((.exit 2), f12_L1_E1 a2137)] [] rfl (W8 g2417 g2410 g2408 g2380 g2378 g2352 g2349 g2346 <| W4 g2344 g2341 g2338 g2255 <| Z g2141 Z0) (by kernel_rfl)
  have g2418 := bool_eq h2345
  rcases cnd_or h with ⟨h2419, h⟩ | ⟨h2419, h⟩
  rotate_left
  ·have g2492 := bool_eq h2419
   have g2518 : cleanQ false 0 1 [(.blk 10 [(c_GEdit a2137)])] := trivial
   rcases bnd2_some h with ⟨v2521, e2519, h⟩ | ⟨v2522, e2519, h⟩
   ·have g2520 := f12_L0_ok n a2137 n 0 _ e2519
    cases h
    exact pv_z (F := F12) ⟨[tt 7, ff 12, ff 29, ff 39, ff 43, ff 48, ff 52], []⟩ [(.ret, f12_L0_E0 a2137)] [] rfl (W8 g2520 g2518 g2492 g2418 g2344 g2341 g2338 g2255 <| Z g2141 Z0) (by kernel_rfl)
   have g2520 := f12_L0_ok n a2137 n 0 _ e2519
   have g2548 : cleanQ false 0 1 [(.blk 10 [(c_GEdit a2137)])] := trivial
   rcases bnd2_some h with ⟨v2551, e2549, h⟩ | ⟨v2552, e2549, h⟩
   ·have g2550 := f12_L1_ok n a2137 n 0 _ e2549
    cases h
    exact pv_z (F := F12) ⟨[tt 7, ff 12, ff 29, ff 39, ff 43, ff 48, ff 52], []⟩ [((.exit 0), f12_L0_E1 a2137), (.ret, f12_L1_E0 a2137)] [] rfl (W8 g2550 g2548 g2520 g2518 g2492 g2418 g2344 g2341 <| W2 g2338 g2255 <| Z g2141 Z0) (by kernel_rfl)
   have g2550 := f12_L1_ok n a2137 n 0 _ e2549
   obtain ⟨v2553, e2554, h⟩ := bnd_some h
   rcases cnd_or h with ⟨h2555, h⟩ | ⟨h2555, h⟩
   ·have g2556 := by have q := f28_ok n a2137.At _ e2554; rw [h2555] at q; exact q
    cases h
    exact pv_z (F := F12) ⟨[tt 7, ff 12, ff 29, ff 39, ff 43, ff 48, ff 52, tt 95], []⟩ [((.exit 0), f12_L0_E1 a2137), ((.exit 2), f12_L1_E1 a2137)] [] rfl (W8 g2556 g2550 g2548 g2520 g2518 g2492 g2418 g2344 <| W4 g2341 g2338 g2255 g2141 Z0) (by kernel_rfl)
   have g2557 := by have q := f28_ok n a2137.At _ e2554; rw [h2555] at q; exact q
   cases h
   exact pv_z (F := F12) ⟨[tt 7, ff 12, ff 29, ff 39, ff 43, ff 48, ff 52, ff 95], []⟩ [((.exit 0), f12_L0_E1 a2137), ((.exit 2), f12_L1_E1 a2137)] [] rfl (W8 g2557 g2550 g2548 g2520 g2518 g2492 g2418 g2344 <| W4 g2341 g2338 g2255 g2141 Z0) (by kernel_rfl)
  have g2420 := bool_eq h2419
  rcases cnd_or h with ⟨h2421, h⟩ | ⟨h2421, h⟩
  ·have g2422 := bool_eq h2421
   cases h
   exact pz F12 ⟨[tt 7, ff 12, ff 29, ff 39, ff 43, ff 48, tt 52, tt 57], []⟩ (W8 g2422 g2420 g2418 g2344 g2341 g2338 g2255 g2141 Z0)
  have g2423 := bool_eq h2421
  rcases cnd_or h with ⟨h2424, h⟩ | ⟨h2424, h⟩
  ·have g2425 := bool_eq h2424
   cases h
   exact pz F12 ⟨[tt 7, ff 12, ff 29, ff 39, ff 43, ff 48, tt 52, ff 57, tt 61], []⟩ (W8 g2425 g2423 g2420 g2418 g2344 g2341 g2338 g2255 <| Z g2141 Z0)
  have g2426 := bool_eq h2424
  have g2452 : cleanQ false 0 1 [(.blk 10 [(c_GEdit a2137)])] := trivial
  rcases bnd2_some h with ⟨v2455, e2453, h⟩ | ⟨v2456, e2453, h⟩
  ·have g2454 := f12_L0_ok n a2137 n 0 _ e2453
   cases h
   exact pv_z (F := F12) ⟨[tt 7, ff 12, ff 29, ff 39, ff 43, ff 48, tt 52, ff 57, ff 61], []⟩ [(.ret, f12_L0_E0 a2137)] [] rfl (W8 g2454 g2452 g2426 g2423 g2420 g2418 g2344 g2341 <| W2 g2338 g2255 <| Z g2141 Z0) (by kernel_rfl)
  have g2454 := f12_L0_ok n a2137 n 0 _ e2453
  have g2482 : cleanQ false 0 1 [(.blk 10 [(c_GEdit a2137)])] := trivial
  rcases bnd2_some h with ⟨v2485, e2483, h⟩ | ⟨v2486, e2483, h⟩
  ·have g2484 := f12_L1_ok n a2137 n 0 _ e2483
   cases h
   exact pv_z (F := F12) ⟨[tt 7, ff 12, ff 29, ff 39, ff 43, ff 48, tt 52, ff 57, ff 61], []⟩ [((.exit 0), f12_L0_E1 a2137), (.ret, f12_L1_E0 a2137)] [] rfl (W8 g2484 g2482 g2454 g2452 g2426 g2423 g2420 g2418 <| W4 g2344 g2341 g2338 g2255 <| Z g2141 Z0) (by kernel_rfl)
  have g2484 := f12_L1_ok n a2137 n 0 _ e2483
  obtain ⟨v2487, e2488, h⟩ := bnd_some h
  rcases cnd_or h with ⟨h2489, h⟩ | ⟨h2489, h⟩
  ·have g2490 := by have q := f28_ok n a2137.At _ e2488; rw [h2489] at q; exact q
   cases h
   exact pv_z (F := F12) ⟨[tt 7, ff 12, ff 29, ff 39, ff 43, ff 48, tt 52, ff 57, ff 61, tt 95], []⟩ [((.exit 0), f12_L0_E1 a2137), ((.exit 2), f12_L1_E1 a2137)] [] rfl (W8 g2490 g2484 g2482 g2454 g2452 g2426 g2423 g2420 <| W4 g2418 g2344 g2341 g2338 <| W2 g2255 g2141 Z0) (by kernel_rfl)
  have g2491 := by have q := f28_ok n a2137.At _ e2488; rw [h2489] at q; exact q
  cases h
  exact pv_z (F := F12) ⟨[tt 7, ff 12, ff 29, ff 39, ff 43, ff 48, tt 52, ff 57, ff 61, ff 95], []⟩ [((.exit 0), f12_L0_E1 a2137), ((.exit 2), f12_L1_E1 a2137)] [] rfl (W8 g2491 g2484 g2482 g2454 g2452 g2426 g2423 g2420 <| W4 g2418 g2344 g2341 g2338 <| W2 g2255 g2141 Z0) (by kernel_rfl)
def f48 : Nat → ByteArray → Option Int
 | 0, _ => none
 | n + 1, a2559 => (cnd (((a2559.size : Nat) : Int) == 1) (bnd (sat a2559 0) fun i2563 => (some (IntKind.i64.wrap i2563))) (cnd (((a2559.size : Nat) : Int) == 2) (bnd (sat a2559 0) fun i2569 => (bnd (sat a2559 1) fun i2573 => (some (IntKind.i64.wrap ((IntKind.i64.wrap ((Int.tmod (IntKind.i64.wrap i2569) 32) * 64)) + (Int.tmod (IntKind.i64.wrap i2573) 64)))))) (bnd (sat a2559 0) fun i2578 => (bnd (sat a2559 1) fun i2582 => (bnd (sat a2559 2) fun i2586 => (some (IntKind.i64.wrap ((IntKind.i64.wrap ((IntKind.i64.wrap ((Int.tmod (IntKind.i64.wrap i2578) 16) * 4096)) + (IntKind.i64.wrap ((Int.tmod (IntKind.i64.wrap i2582) 64) * 64)))) + (Int.tmod (IntKind.i64.wrap i2586) 64)))))))))
theorem f48_ok (n : Nat) (a2559 : ByteArray) (r : Int) (h : f48 n a2559 = some r) : pv PP T n 48 [(sv a2559)] = some (iv r) := by
 cases n with
 | zero => cases h
 | succ n =>
  rw [f48] at h
  have g2560 := lenStr_9 (cf := evF PP T n) (fl := 0) (H := []) a2559
  rcases cnd_or h with ⟨h2561, h⟩ | ⟨h2561, h⟩
  ·have g2562 := bool_eq h2561
   obtain ⟨i2563, e2564, h⟩ := bnd_some h
   have g2565 := strIdx_ok (P := PP) (cf := evF PP T n) (fl := 0) (H := []) (t := 9) (by kernel_rfl) e2564
   cases h
   exact pz F48 ⟨[(4, (iv ((a2559.size : Nat) : Int)), none), tt 6, (8, (.lit (.int .u8 i2563)), none)], []⟩ (W2 g2565 g2562 <| Z g2560 Z0)
  have g2566 := bool_eq h2561
  rcases cnd_or h with ⟨h2567, h⟩ | ⟨h2567, h⟩
  ·have g2568 := bool_eq h2567
   obtain ⟨i2569, e2570, h⟩ := bnd_some h
   have g2571 := strIdx_ok (P := PP) (cf := evF PP T n) (fl := 0) (H := []) (t := 9) (by kernel_rfl) e2570
   have g2572 := rem_ok (P := PP) (cf := evF PP T n) (fl := 0) (H := []) (t := 3) (k := .i64) (a := (IntKind.i64.wrap i2569)) (d := 32) (by decide)
   obtain ⟨i2573, e2574, h⟩ := bnd_some h
   have g2575 := strIdx_ok (P := PP) (cf := evF PP T n) (fl := 0) (H := []) (t := 9) (by kernel_rfl) e2574
   have g2576 := rem_ok (P := PP) (cf := evF PP T n) (fl := 0) (H := []) (t := 3) (k := .i64) (a := (IntKind.i64.wrap i2573)) (d := 64) (by decide)
   cases h
   exact pz F48 ⟨[(4, (iv ((a2559.size : Nat) : Int)), none), ff 6, tt 11, (13, (.lit (.int .u8 i2569)), none), (15, (iv (Int.tmod (IntKind.i64.wrap i2569) 32)), none), (18, (.lit (.int .u8 i2573)), none), (20, (iv (Int.tmod (IntKind.i64.wrap i2573) 64)), none)], []⟩ (W4 g2576 g2575 g2572 g2571 <| W2 g2568 g2566 <| Z g2560 Z0)
  have g2577 := bool_eq h2567
  obtain ⟨i2578, e2579, h⟩ := bnd_some h
  have g2580 := strIdx_ok (P := PP) (cf := evF PP T n) (fl := 0) (H := []) (t := 9) (by kernel_rfl) e2579
  have g2581 := rem_ok (P := PP) (cf := evF PP T n) (fl := 0) (H := []) (t := 3) (k := .i64) (a := (IntKind.i64.wrap i2578)) (d := 16) (by decide)
  obtain ⟨i2582, e2583, h⟩ := bnd_some h
  have g2584 := strIdx_ok (P := PP) (cf := evF PP T n) (fl := 0) (H := []) (t := 9) (by kernel_rfl) e2583
  have g2585 := rem_ok (P := PP) (cf := evF PP T n) (fl := 0) (H := []) (t := 3) (k := .i64) (a := (IntKind.i64.wrap i2582)) (d := 64) (by decide)
  obtain ⟨i2586, e2587, h⟩ := bnd_some h
  have g2588 := strIdx_ok (P := PP) (cf := evF PP T n) (fl := 0) (H := []) (t := 9) (by kernel_rfl) e2587
  have g2589 := rem_ok (P := PP) (cf := evF PP T n) (fl := 0) (H := []) (t := 3) (k := .i64) (a := (IntKind.i64.wrap i2586)) (d := 64) (by decide)
  cases h
  exact pz F48 ⟨[(4, (iv ((a2559.size : Nat) : Int)), none), ff 6, ff 11, (23, (.lit (.int .u8 i2578)), none), (25, (iv (Int.tmod (IntKind.i64.wrap i2578) 16)), none), (28, (.lit (.int .u8 i2582)), none), (30, (iv (Int.tmod (IntKind.i64.wrap i2582) 64)), none), (34, (.lit (.int .u8 i2586)), none), (36, (iv (Int.tmod (IntKind.i64.wrap i2586) 64)), none)], []⟩ (W8 g2589 g2588 g2585 g2584 g2581 g2580 g2577 g2566 <| Z g2560 Z0)
def f77 : Nat → Int → Option Bool
 | 0, _ => none
 | n + 1, a2590 => (cnd (decide (a2590 ≥ 48)) (cnd (decide (a2590 ≤ 57)) (some true) (some false)) (some false))
theorem f77_ok (n : Nat) (a2590 : Int) (r : Bool) (h : f77 n a2590 = some r) : pv PP T n 77 [(iv a2590)] = some (bv r) := by
 cases n with
 | zero => cases h
 | succ n =>
  rw [f77] at h
  rcases cnd_or h with ⟨h2591, h⟩ | ⟨h2591, h⟩
  rotate_left
  ·have g2596 := bool_eq h2591
   cases h
   exact pz F77 ⟨[ff 4], []⟩ (Z g2596 Z0)
  have g2592 := bool_eq h2591
  rcases cnd_or h with ⟨h2593, h⟩ | ⟨h2593, h⟩
  ·have g2594 := bool_eq h2593
   cases h
   exact pz F77 ⟨[tt 4, tt 7], []⟩ (W2 g2594 g2592 Z0)
  have g2595 := bool_eq h2593
  cases h
  exact pz F77 ⟨[tt 4, ff 7], []⟩ (W2 g2595 g2592 Z0)
def f49 : Nat → Int → Option Int
 | 0, _ => none
 | n + 1, a2597 => (cnd (a2597 == 32) (some 0) (cnd (a2597 == 39) (some 0) (cnd (a2597 == 40) (some 0) (cnd (a2597 == 41) (some 0) (cnd (a2597 == 45) (some 0) (cnd (a2597 == 46) (some 0) (bnd (f77 n a2597) fun v2616 => (cnd (v2616) (some 0) (cnd (decide (a2597 ≥ 65)) (cnd (decide (a2597 ≤ 90)) (some 1) (cnd (decide (a2597 ≥ 97)) (cnd (decide (a2597 ≤ 122)) (some 1) (cnd (decide (a2597 ≥ 192)) (cnd (decide (a2597 ≤ 591)) (cnd (a2597 != 215) (cnd (a2597 != 247) (some 1) (some (-1))) (some (-1))) (cnd (decide (a2597 ≥ 880)) (cnd (decide (a2597 ≤ 1023)) (some 2) (cnd (decide (a2597 ≤ 1279)) (some 3) (cnd (decide (a2597 ≥ 1488)) (cnd (decide (a2597 ≤ 1514)) (some 4) (cnd (decide (a2597 ≥ 19968)) (cnd (decide (a2597 ≤ 40959)) (some 5) (some (-1))) (some (-1)))) (some (-1))))) (some (-1)))) (some (-1)))) (some (-1)))) (some (-1)))))))))))
theorem f49_ok (n : Nat) (a2597 : Int) (r : Int) (h : f49 n a2597 = some r) : pv PP T n 49 [(iv a2597)] = some (iv r) := by
 cases n with
 | zero => cases h
 | succ n =>
  rw [f49] at h
  rcases cnd_or h with ⟨h2598, h⟩ | ⟨h2598, h⟩
  ·have g2599 := bool_eq h2598
   cases h
   exact pz F49 ⟨[tt 5], []⟩ (Z g2599 Z0)
  have g2600 := bool_eq h2598
  rcases cnd_or h with ⟨h2601, h⟩ | ⟨h2601, h⟩
  ·have g2602 := bool_eq h2601
   cases h
   exact pz F49 ⟨[ff 5, tt 8], []⟩ (W2 g2602 g2600 Z0)
  have g2603 := bool_eq h2601
  rcases cnd_or h with ⟨h2604, h⟩ | ⟨h2604, h⟩
  ·have g2605 := bool_eq h2604
   cases h
   exact pz F49 ⟨[ff 5, ff 8, tt 12], []⟩ (W2 g2605 g2603 <| Z g2600 Z0)
  have g2606 := bool_eq h2604
  rcases cnd_or h with ⟨h2607, h⟩ | ⟨h2607, h⟩
  ·have g2608 := bool_eq h2607
   cases h
   exact pz F49 ⟨[ff 5, ff 8, ff 12, tt 16], []⟩ (W4 g2608 g2606 g2603 g2600 Z0)
  have g2609 := bool_eq h2607
  rcases cnd_or h with ⟨h2610, h⟩ | ⟨h2610, h⟩
  ·have g2611 := bool_eq h2610
   cases h
   exact pz F49 ⟨[ff 5, ff 8, ff 12, ff 16, tt 20], []⟩ (W4 g2611 g2609 g2606 g2603 <| Z g2600 Z0)
  have g2612 := bool_eq h2610
  rcases cnd_or h with ⟨h2613, h⟩ | ⟨h2613, h⟩
  ·have g2614 := bool_eq h2613
   cases h
   exact pz F49 ⟨[ff 5, ff 8, ff 12, ff 16, ff 20, tt 24], []⟩ (W4 g2614 g2612 g2609 g2606 <| W2 g2603 g2600 Z0)
  have g2615 := bool_eq h2613
  obtain ⟨v2616, e2617, h⟩ := bnd_some h
  rcases cnd_or h with ⟨h2618, h⟩ | ⟨h2618, h⟩
  ·have g2619 := by have q := f77_ok n a2597 _ e2617; rw [h2618] at q; exact q
   cases h
   exact pz F49 ⟨[ff 5, ff 8, ff 12, ff 16, ff 20, ff 24, tt 28], []⟩ (W4 g2619 g2615 g2612 g2609 <| W2 g2606 g2603 <| Z g2600 Z0)
  have g2620 := by have q := f77_ok n a2597 _ e2617; rw [h2618] at q; exact q
  rcases cnd_or h with ⟨h2621, h⟩ | ⟨h2621, h⟩
  rotate_left
  ·have g2709 := bool_eq h2621
   have h2710 : (decide (a2597 ≥ 97)) = false := by have q0 := of_decide_eq_false h2621; exact decide_eq_false (by omega)
   have g2711 := bool_eq h2710
   have h2712 : (decide (a2597 ≥ 192)) = false := by have q0 := of_decide_eq_false h2621; exact decide_eq_false (by omega)
   have g2713 := bool_eq h2712
   have h2714 : (decide (a2597 ≥ 880)) = false := by have q0 := of_decide_eq_false h2621; exact decide_eq_false (by omega)
   have g2715 := bool_eq h2714
   have h2716 : (decide (a2597 ≥ 1024)) = false := by have q0 := of_decide_eq_false h2621; exact decide_eq_false (by omega)
   have g2717 := bool_eq h2716
   have h2718 : (decide (a2597 ≥ 1488)) = false := by have q0 := of_decide_eq_false h2621; exact decide_eq_false (by omega)
   have g2719 := bool_eq h2718
   have h2720 : (decide (a2597 ≥ 19968)) = false := by have q0 := of_decide_eq_false h2621; exact decide_eq_false (by omega)
   have g2721 := bool_eq h2720
   cases h
   exact pz F49 ⟨[ff 5, ff 8, ff 12, ff 16, ff 20, ff 24, ff 28, ff 32, ff 39, ff 47, ff 62, ff 69, ff 76, ff 83], []⟩ (W8 g2721 g2719 g2717 g2715 g2713 g2711 g2709 g2620 <| W4 g2615 g2612 g2609 g2606 <| W2 g2603 g2600 Z0)
  have g2622 := bool_eq h2621
  rcases cnd_or h with ⟨h2623, h⟩ | ⟨h2623, h⟩
  ·have g2624 := bool_eq h2623
   cases h
   exact pz F49 ⟨[ff 5, ff 8, ff 12, ff 16, ff 20, ff 24, ff 28, tt 32, tt 35], []⟩ (W8 g2624 g2622 g2620 g2615 g2612 g2609 g2606 g2603 <| Z g2600 Z0)
  have g2625 := bool_eq h2623
  rcases cnd_or h with ⟨h2626, h⟩ | ⟨h2626, h⟩
  rotate_left
  ·have g2698 := bool_eq h2626
   have h2699 : (decide (a2597 ≥ 192)) = false := by have q0 := of_decide_eq_false h2623; have q1 := of_decide_eq_false h2626; exact decide_eq_false (by omega)
   have g2700 := bool_eq h2699
   have h2701 : (decide (a2597 ≥ 880)) = false := by have q0 := of_decide_eq_false h2623; have q1 := of_decide_eq_false h2626; exact decide_eq_false (by omega)
   have g2702 := bool_eq h2701
   have h2703 : (decide (a2597 ≥ 1024)) = false := by have q0 := of_decide_eq_false h2623; have q1 := of_decide_eq_false h2626; exact decide_eq_false (by omega)
   have g2704 := bool_eq h2703
   have h2705 : (decide (a2597 ≥ 1488)) = false := by have q0 := of_decide_eq_false h2623; have q1 := of_decide_eq_false h2626; exact decide_eq_false (by omega)
   have g2706 := bool_eq h2705
   have h2707 : (decide (a2597 ≥ 19968)) = false := by have q0 := of_decide_eq_false h2623; have q1 := of_decide_eq_false h2626; exact decide_eq_false (by omega)
   have g2708 := bool_eq h2707
   cases h
   exact pz F49 ⟨[ff 5, ff 8, ff 12, ff 16, ff 20, ff 24, ff 28, tt 32, ff 35, ff 39, ff 47, ff 62, ff 69, ff 76, ff 83], []⟩ (W8 g2708 g2706 g2704 g2702 g2700 g2698 g2625 g2622 <| W4 g2620 g2615 g2612 g2609 <| W2 g2606 g2603 <| Z g2600 Z0)
  have g2627 := bool_eq h2626
  rcases cnd_or h with ⟨h2628, h⟩ | ⟨h2628, h⟩
  ·have g2629 := bool_eq h2628
   cases h
   exact pz F49 ⟨[ff 5, ff 8, ff 12, ff 16, ff 20, ff 24, ff 28, tt 32, ff 35, tt 39, tt 42], []⟩ (W8 g2629 g2627 g2625 g2622 g2620 g2615 g2612 g2609 <| W2 g2606 g2603 <| Z g2600 Z0)
  have g2630 := bool_eq h2628
  rcases cnd_or h with ⟨h2631, h⟩ | ⟨h2631, h⟩
  rotate_left
  ·have g2689 := bool_eq h2631
   have h2690 : (decide (a2597 ≥ 880)) = false := by have q0 := of_decide_eq_false h2628; have q1 := of_decide_eq_false h2631; exact decide_eq_false (by omega)
   have g2691 := bool_eq h2690
   have h2692 : (decide (a2597 ≥ 1024)) = false := by have q0 := of_decide_eq_false h2628; have q1 := of_decide_eq_false h2631; exact decide_eq_false (by omega)
   have g2693 := bool_eq h2692
   have h2694 : (decide (a2597 ≥ 1488)) = false := by have q0 := of_decide_eq_false h2628; have q1 := of_decide_eq_false h2631; exact decide_eq_false (by omega)
   have g2695 := bool_eq h2694
   have h2696 : (decide (a2597 ≥ 19968)) = false := by have q0 := of_decide_eq_false h2628; have q1 := of_decide_eq_false h2631; exact decide_eq_false (by omega)
   have g2697 := bool_eq h2696
   cases h
   exact pz F49 ⟨[ff 5, ff 8, ff 12, ff 16, ff 20, ff 24, ff 28, tt 32, ff 35, tt 39, ff 42, ff 47, ff 62, ff 69, ff 76, ff 83], []⟩ (W8 g2697 g2695 g2693 g2691 g2689 g2630 g2627 g2625 <| W8 g2622 g2620 g2615 g2612 g2609 g2606 g2603 g2600 Z0)
  have g2632 := bool_eq h2631
  rcases cnd_or h with ⟨h2633, h⟩ | ⟨h2633, h⟩
  ·have g2634 := bool_eq h2633
   rcases cnd_or h with ⟨h2635, h⟩ | ⟨h2635, h⟩
   rotate_left
   ·have g2648 := bool_eq h2635
    have h2649 : (decide (a2597 ≥ 880)) = false := by have q0 := (show a2597 = 215 by simpa using h2635); exact decide_eq_false (by omega)
    have g2650 := bool_eq h2649
    have h2651 : (decide (a2597 ≥ 1024)) = false := by have q0 := (show a2597 = 215 by simpa using h2635); exact decide_eq_false (by omega)
    have g2652 := bool_eq h2651
    have h2653 : (decide (a2597 ≥ 1488)) = false := by have q0 := (show a2597 = 215 by simpa using h2635); exact decide_eq_false (by omega)
    have g2654 := bool_eq h2653
    have h2655 : (decide (a2597 ≥ 19968)) = false := by have q0 := (show a2597 = 215 by simpa using h2635); exact decide_eq_false (by omega)
    have g2656 := bool_eq h2655
    cases h
    exact pz F49 ⟨[ff 5, ff 8, ff 12, ff 16, ff 20, ff 24, ff 28, tt 32, ff 35, tt 39, ff 42, tt 47, tt 50, ff 54, ff 62, ff 69, ff 76, ff 83], []⟩ (W8 g2656 g2654 g2652 g2650 g2648 g2634 g2632 g2630 <| W8 g2627 g2625 g2622 g2620 g2615 g2612 g2609 g2606 <| W2 g2603 g2600 Z0)
   have g2636 := bool_eq h2635
   rcases cnd_or h with ⟨h2637, h⟩ | ⟨h2637, h⟩
   ·have g2638 := bool_eq h2637
    cases h
    exact pz F49 ⟨[ff 5, ff 8, ff 12, ff 16, ff 20, ff 24, ff 28, tt 32, ff 35, tt 39, ff 42, tt 47, tt 50, tt 54, tt 58], []⟩ (W8 g2638 g2636 g2634 g2632 g2630 g2627 g2625 g2622 <| W4 g2620 g2615 g2612 g2609 <| W2 g2606 g2603 <| Z g2600 Z0)
   have g2639 := bool_eq h2637
   have h2640 : (decide (a2597 ≥ 880)) = false := by have q0 := (show a2597 = 247 by simpa using h2637); exact decide_eq_false (by omega)
   have g2641 := bool_eq h2640
   have h2642 : (decide (a2597 ≥ 1024)) = false := by have q0 := (show a2597 = 247 by simpa using h2637); exact decide_eq_false (by omega)
   have g2643 := bool_eq h2642
   have h2644 : (decide (a2597 ≥ 1488)) = false := by have q0 := (show a2597 = 247 by simpa using h2637); exact decide_eq_false (by omega)
   have g2645 := bool_eq h2644
   have h2646 : (decide (a2597 ≥ 19968)) = false := by have q0 := (show a2597 = 247 by simpa using h2637); exact decide_eq_false (by omega)
   have g2647 := bool_eq h2646
   cases h
   exact pz F49 ⟨[ff 5, ff 8, ff 12, ff 16, ff 20, ff 24, ff 28, tt 32, ff 35, tt 39, ff 42, tt 47, tt 50, tt 54, ff 58, ff 62, ff 69, ff 76, ff 83], []⟩ (W8 g2647 g2645 g2643 g2641 g2639 g2636 g2634 g2632 <| W8 g2630 g2627 g2625 g2622 g2620 g2615 g2612 g2609 <| W2 g2606 g2603 <| Z g2600 Z0)
  have g2657 := bool_eq h2633
  rcases cnd_or h with ⟨h2658, h⟩ | ⟨h2658, h⟩
  rotate_left
  ·have g2682 := bool_eq h2658
   have h2683 : (decide (a2597 ≥ 1024)) = false := by have q0 := of_decide_eq_false h2633; have q1 := of_decide_eq_false h2658; exact decide_eq_false (by omega)
   have g2684 := bool_eq h2683
   have h2685 : (decide (a2597 ≥ 1488)) = false := by have q0 := of_decide_eq_false h2633; have q1 := of_decide_eq_false h2658; exact decide_eq_false (by omega)
   have g2686 := bool_eq h2685
   have h2687 : (decide (a2597 ≥ 19968)) = false := by have q0 := of_decide_eq_false h2633; have q1 := of_decide_eq_false h2658; exact decide_eq_false (by omega)
   have g2688 := bool_eq h2687
   cases h
   exact pz F49 ⟨[ff 5, ff 8, ff 12, ff 16, ff 20, ff 24, ff 28, tt 32, ff 35, tt 39, ff 42, tt 47, ff 50, ff 62, ff 69, ff 76, ff 83], []⟩ (W8 g2688 g2686 g2684 g2682 g2657 g2632 g2630 g2627 <| W8 g2625 g2622 g2620 g2615 g2612 g2609 g2606 g2603 <| Z g2600 Z0)
  have g2659 := bool_eq h2658
  rcases cnd_or h with ⟨h2660, h⟩ | ⟨h2660, h⟩
  ·have g2661 := bool_eq h2660
   cases h
   exact pz F49 ⟨[ff 5, ff 8, ff 12, ff 16, ff 20, ff 24, ff 28, tt 32, ff 35, tt 39, ff 42, tt 47, ff 50, tt 62, tt 65], []⟩ (W8 g2661 g2659 g2657 g2632 g2630 g2627 g2625 g2622 <| W4 g2620 g2615 g2612 g2609 <| W2 g2606 g2603 <| Z g2600 Z0)
  have g2662 := bool_eq h2660
  have h2663 : (decide (a2597 ≥ 1024)) = true := by have q0 := of_decide_eq_false h2660; exact decide_eq_true (by omega)
  have g2664 := bool_eq h2663
  rcases cnd_or h with ⟨h2665, h⟩ | ⟨h2665, h⟩
  ·have g2666 := bool_eq h2665
   cases h
   exact pz F49 ⟨[ff 5, ff 8, ff 12, ff 16, ff 20, ff 24, ff 28, tt 32, ff 35, tt 39, ff 42, tt 47, ff 50, tt 62, ff 65, tt 69, tt 72], []⟩ (W8 g2666 g2664 g2662 g2659 g2657 g2632 g2630 g2627 <| W8 g2625 g2622 g2620 g2615 g2612 g2609 g2606 g2603 <| Z g2600 Z0)
  have g2667 := bool_eq h2665
  rcases cnd_or h with ⟨h2668, h⟩ | ⟨h2668, h⟩
  rotate_left
  ·have g2679 := bool_eq h2668
   have h2680 : (decide (a2597 ≥ 19968)) = false := by have q0 := of_decide_eq_false h2665; have q1 := of_decide_eq_false h2668; exact decide_eq_false (by omega)
   have g2681 := bool_eq h2680
   cases h
   exact pz F49 ⟨[ff 5, ff 8, ff 12, ff 16, ff 20, ff 24, ff 28, tt 32, ff 35, tt 39, ff 42, tt 47, ff 50, tt 62, ff 65, tt 69, ff 72, ff 76, ff 83], []⟩ (W8 g2681 g2679 g2667 g2664 g2662 g2659 g2657 g2632 <| W8 g2630 g2627 g2625 g2622 g2620 g2615 g2612 g2609 <| W2 g2606 g2603 <| Z g2600 Z0)
  have g2669 := bool_eq h2668
  rcases cnd_or h with ⟨h2670, h⟩ | ⟨h2670, h⟩
  ·have g2671 := bool_eq h2670
   cases h
   exact pz F49 ⟨[ff 5, ff 8, ff 12, ff 16, ff 20, ff 24, ff 28, tt 32, ff 35, tt 39, ff 42, tt 47, ff 50, tt 62, ff 65, tt 69, ff 72, tt 76, tt 79], []⟩ (W8 g2671 g2669 g2667 g2664 g2662 g2659 g2657 g2632 <| W8 g2630 g2627 g2625 g2622 g2620 g2615 g2612 g2609 <| W2 g2606 g2603 <| Z g2600 Z0)
  have g2672 := bool_eq h2670
  rcases cnd_or h with ⟨h2673, h⟩ | ⟨h2673, h⟩
  rotate_left
  ·have g2678 := bool_eq h2673
   cases h
   exact pz F49 ⟨[ff 5, ff 8, ff 12, ff 16, ff 20, ff 24, ff 28, tt 32, ff 35, tt 39, ff 42, tt 47, ff 50, tt 62, ff 65, tt 69, ff 72, tt 76, ff 79, ff 83], []⟩ (W8 g2678 g2672 g2669 g2667 g2664 g2662 g2659 g2657 <| W8 g2632 g2630 g2627 g2625 g2622 g2620 g2615 g2612 <| W4 g2609 g2606 g2603 g2600 Z0)
  have g2674 := bool_eq h2673
  rcases cnd_or h with ⟨h2675, h⟩ | ⟨h2675, h⟩
  ·have g2676 := bool_eq h2675
   cases h
   exact pz F49 ⟨[ff 5, ff 8, ff 12, ff 16, ff 20, ff 24, ff 28, tt 32, ff 35, tt 39, ff 42, tt 47, ff 50, tt 62, ff 65, tt 69, ff 72, tt 76, ff 79, tt 83, tt 86], []⟩ (W8 g2676 g2674 g2672 g2669 g2667 g2664 g2662 g2659 <| W8 g2657 g2632 g2630 g2627 g2625 g2622 g2620 g2615 <| W4 g2612 g2609 g2606 g2603 <| Z g2600 Z0)
  have g2677 := bool_eq h2675
  cases h
  exact pz F49 ⟨[ff 5, ff 8, ff 12, ff 16, ff 20, ff 24, ff 28, tt 32, ff 35, tt 39, ff 42, tt 47, ff 50, tt 62, ff 65, tt 69, ff 72, tt 76, ff 79, tt 83, ff 86], []⟩ (W8 g2677 g2674 g2672 g2669 g2667 g2664 g2662 g2659 <| W8 g2657 g2632 g2630 g2627 g2625 g2622 g2620 g2615 <| W4 g2612 g2609 g2606 g2603 <| Z g2600 Z0)
def f50 : Nat → Int → Option ByteArray
 | 0, _ => none
 | n + 1, a2722 => (cnd (decide (a2722 < 128)) (some (strOfB [(IntKind.u8.wrap a2722)])) (cnd (decide (a2722 < 2048)) (some (strOfB [(IntKind.u8.wrap (IntKind.i64.wrap (192 + (IntKind.i64.wrap (Int.tdiv a2722 64))))), (IntKind.u8.wrap (IntKind.i64.wrap (128 + (Int.tmod a2722 64))))])) (some (strOfB [(IntKind.u8.wrap (IntKind.i64.wrap (224 + (IntKind.i64.wrap (Int.tdiv a2722 4096))))), (IntKind.u8.wrap (IntKind.i64.wrap (128 + (Int.tmod (IntKind.i64.wrap (Int.tdiv a2722 64)) 64)))), (IntKind.u8.wrap (IntKind.i64.wrap (128 + (Int.tmod a2722 64))))]))))
theorem f50_ok (n : Nat) (a2722 : Int) (r : ByteArray) (h : f50 n a2722 = some r) : pv PP T n 50 [(iv a2722)] = some (sv r) := by
 cases n with
 | zero => cases h
 | succ n =>
  rw [f50] at h
  rcases cnd_or h with ⟨h2723, h⟩ | ⟨h2723, h⟩
  ·have g2724 := bool_eq h2723
   cases h
   exact pz F50 ⟨[tt 5], []⟩ (Z g2724 Z0)
  have g2725 := bool_eq h2723
  rcases cnd_or h with ⟨h2726, h⟩ | ⟨h2726, h⟩
  ·have g2727 := bool_eq h2726
   have g2728 := quo_ok (P := PP) (cf := evF PP T n) (fl := 0) (H := []) (t := 3) (k := .i64) (a := a2722) (d := 64) (by decide)
   have g2729 := rem_ok (P := PP) (cf := evF PP T n) (fl := 0) (H := []) (t := 3) (k := .i64) (a := a2722) (d := 64) (by decide)
   cases h
   exact pz F50 ⟨[ff 5, tt 12, (14, (iv (IntKind.i64.wrap (Int.tdiv a2722 64))), none), (18, (iv (Int.tmod a2722 64)), none)], []⟩ (W4 g2729 g2728 g2727 g2725 Z0)
  have g2730 := bool_eq h2726
  have g2731 := quo_ok (P := PP) (cf := evF PP T n) (fl := 0) (H := []) (t := 3) (k := .i64) (a := a2722) (d := 4096) (by decide)
  have g2732 := quo_ok (P := PP) (cf := evF PP T n) (fl := 0) (H := []) (t := 3) (k := .i64) (a := a2722) (d := 64) (by decide)
  have g2733 := rem_ok (P := PP) (cf := evF PP T n) (fl := 0) (H := []) (t := 3) (k := .i64) (a := (IntKind.i64.wrap (Int.tdiv a2722 64))) (d := 64) (by decide)
  have g2734 := rem_ok (P := PP) (cf := evF PP T n) (fl := 0) (H := []) (t := 3) (k := .i64) (a := a2722) (d := 64) (by decide)
  cases h
  exact pz F50 ⟨[ff 5, ff 12, (24, (iv (IntKind.i64.wrap (Int.tdiv a2722 4096))), none), (28, (iv (IntKind.i64.wrap (Int.tdiv a2722 64))), none), (29, (iv (Int.tmod (IntKind.i64.wrap (Int.tdiv a2722 64)) 64)), none), (33, (iv (Int.tmod a2722 64)), none)], []⟩ (W4 g2734 g2733 g2732 g2731 <| W2 g2730 g2725 Z0)
def f29_L0_S (a2735 : ByteArray) (l2814 : (List Int)) (i2815 : Int) : St := ⟨[(sv a2735), U, U, U, (.ms 0 l2814.length 0 l2814.length), (iv i2815), U, U, U, U, U, U, U, U, U, U, U, U, U, U, U, U, U, U, U, U, U, U, U, U, U, U, U, U, U, U, U, U, U, U, U, U, U, U, U, U, U, U, U, U, U, U, U, U, U, U, U, U, U, U, U], [(.blk 1 (List.map c_i64 l2814))]⟩
def f29_L0_E0 (a2735 : ByteArray) (l2894 : (List Int)) : St := ⟨[U, U, (.sl false []), (iv 4), U, U, U, U, U, U, U, U, U, U, U, U, U, U, U, U, U, U, U, U, U, U, U, U, U, U, U, U, U, U, U, U, U, U, U, U, U, U, U, U, U, U, U, U, U, U, U, U, U, U, U, U, U, U, U, U, U], [(.blk 1 (List.map c_i64 l2894))]⟩
def f29_L0_E1 (a2735 : ByteArray) (l2895 : (List Int)) : St := ⟨[U, U, U, U, (.ms 0 l2895.length 0 l2895.length), U, U, U, U, U, U, U, U, U, U, U, U, U, U, U, U, U, U, U, U, U, U, U, U, U, U, U, U, U, U, U, U, U, U, U, U, U, U, U, U, U, U, U, U, U, U, U, U, U, U, U, U, U, U, U, U], [(.blk 1 (List.map c_i64 l2895))]⟩
def f29_L1_S (a2735 : ByteArray) (i2815 : Int) (l2927 : (List Int)) (i2928 : Int) (i2929 : Int) : St := ⟨[(sv a2735), U, U, U, (.ms 0 l2927.length 0 l2927.length), (iv i2815), (iv i2928), (iv i2929), U, U, U, U, U, U, U, U, U, U, U, U, U, U, U, U, U, U, U, U, U, U, U, U, U, U, U, U, U, U, U, U, U, U, U, U, U, U, U, U, U, U, U, U, U, U, U, U, U, U, U, U, U], [(.blk 1 (List.map c_i64 l2927))]⟩
def f29_L1_E0 (a2735 : ByteArray) (i2815 : Int) (l2964 : (List Int)) (i2965 : Int) : St := ⟨[(sv a2735), U, U, U, (.ms 0 l2964.length 0 l2964.length), (iv i2815), (iv i2965), U, U, U, U, U, U, U, U, U, U, U, U, U, U, U, U, U, U, U, U, U, U, U, U, U, U, U, U, U, U, U, U, U, U, U, U, U, U, U, U, U, U, U, U, U, U, U, U, U, U, U, U, U, U], [(.blk 1 (List.map c_i64 l2964))]⟩
def f29_L1 (n : Nat) (a2735 : ByteArray) (i2815 : Int) : Nat → (List Int) → Int → Int → Option ((List Int) × Int)
 | 0, _, _, _ => none
 | m + 1, l2927, i2928, i2929 => (cnd (decide (i2929 ≤ 3)) (cnd (decide ((IntKind.i64.wrap (i2815 + i2929)) ≤ ((a2735.size : Nat) : Int))) (cnd (i2928 == 0) (bnd (cutS a2735 i2815 (IntKind.i64.wrap (i2815 + i2929))) fun s2973 => (bnd (f48 n s2973) fun v2976 => (bnd (f49 n v2976) fun v2979 => (cnd (decide (v2979 ≥ 0)) (bnd (f50 n v2976) fun v2984 => (bnd (cutS a2735 i2815 (IntKind.i64.wrap (i2815 + i2929))) fun s2987 => (cnd (decide (v2984 = s2987)) (bnd (app l2927 [v2976]) fun l2992 => (f29_L1 n a2735 i2815 m l2992 i2929 (IntKind.i64.wrap (i2929 + 1)))) (f29_L1 n a2735 i2815 m l2927 i2928 (IntKind.i64.wrap (i2929 + 1)))))) (f29_L1 n a2735 i2815 m l2927 i2928 (IntKind.i64.wrap (i2929 + 1))))))) (some (l2927, i2928))) (some (l2927, i2928))) (some (l2927, i2928)))
theorem f29_L1_ok (n : Nat) (a2735 : ByteArray) (i2815 : Int) : ∀ (m : Nat) (l2927 : (List Int)) (i2928 : Int) (i2929 : Int) (r : ((List Int) × Int)), f29_L1 n a2735 i2815 m l2927 i2928 i2929 = some r → maskR [true, false, false, false, true, true, true] [false, false, true, true] false 0 1 (evLoopH (headSt (some [true, false, false, false, true, true, true, true]) false 0 1) (evC PP (evF PP T n) n 0 L29_1) m (f29_L1_S a2735 i2815 l2927 i2928 i2929)) = some ((.exit 2), f29_L1_E0 a2735 i2815 r.1 r.2)
 | 0, _, _, _, _, h => by cases h
 | m + 1, l2927, i2928, i2929, r, h => by
  rw [f29_L1] at h
  rcases cnd_or h with ⟨h2966, h⟩ | ⟨h2966, h⟩
  rotate_left
  ·have g2999 := bool_eq h2966
   cases h
   exact last_z (live := some [true, false, false, false, true, true, true, true]) (tr' := false) (st' := f29_L1_E0 a2735 i2815 l2927 i2928) ⟨[ff 14], []⟩ [] [] rfl (Z g2999 Z0) (by kernel_rfl) trivial
  have g2967 := bool_eq h2966
  have g2968 := lenStr_9 (cf := evF PP T n) (fl := 0) (H := [(.blk 1 (List.map c_i64 l2927))]) a2735
  rcases cnd_or h with ⟨h2969, h⟩ | ⟨h2969, h⟩
  rotate_left
  ·have g2998 := bool_eq h2969
   cases h
   exact last_z (live := some [true, false, false, false, true, true, true, true]) (tr' := false) (st' := f29_L1_E0 a2735 i2815 l2927 i2928) ⟨[tt 14, (20, (iv ((a2735.size : Nat) : Int)), none), ff 21], []⟩ [] [] rfl (W2 g2998 g2968 <| Z g2967 Z0) (by kernel_rfl) trivial
  have g2970 := bool_eq h2969
  rcases cnd_or h with ⟨h2971, h⟩ | ⟨h2971, h⟩
  rotate_left
  ·have g2997 := bool_eq h2971
   cases h
   exact last_z (live := some [true, false, false, false, true, true, true, true]) (tr' := false) (st' := f29_L1_E0 a2735 i2815 l2927 i2928) ⟨[tt 14, (20, (iv ((a2735.size : Nat) : Int)), none), tt 21, ff 25], []⟩ [] [] rfl (W4 g2997 g2970 g2968 g2967 Z0) (by kernel_rfl) trivial
  have g2972 := bool_eq h2971
  obtain ⟨s2973, e2974, h⟩ := bnd_some h
  have g2975 := strCut11 (P := PP) (cf := evF PP T n) (fl := 0) (H := [(.blk 1 (List.map c_i64 l2927))]) (t := 9) e2974
  obtain ⟨v2976, e2977, h⟩ := bnd_some h
  have g2978 := f48_ok n s2973 _ e2977
  obtain ⟨v2979, e2980, h⟩ := bnd_some h
  have g2981 := f49_ok n v2976 _ e2980
  rcases cnd_or h with ⟨h2982, h⟩ | ⟨h2982, h⟩
  rotate_left
  ·have g2996 := bool_eq h2982
   exact (congrArg (maskR [true, false, false, false, true, true, true] [false, false, true, true] false 0 1) (next_z (live := some [true, false, false, false, true, true, true, true]) (tr := false) (st' := f29_L1_S a2735 i2815 l2927 i2928 (IntKind.i64.wrap (i2929 + 1))) ⟨[tt 14, (20, (iv ((a2735.size : Nat) : Int)), none), tt 21, tt 25, (34, (sv s2973), none), (35, (iv v2976), none), (37, (iv v2979), none), ff 38], []⟩ [] [] rfl (W8 g2996 g2981 g2978 g2975 g2972 g2970 g2968 g2967 Z0) (by kernel_rfl) trivial rfl)).trans (f29_L1_ok n a2735 i2815 m l2927 i2928 (IntKind.i64.wrap (i2929 + 1)) r h)
  have g2983 := bool_eq h2982
  obtain ⟨v2984, e2985, h⟩ := bnd_some h
  have g2986 := f50_ok n v2976 _ e2985
  obtain ⟨s2987, e2988, h⟩ := bnd_some h
  have g2989 := strCut11 (P := PP) (cf := evF PP T n) (fl := 0) (H := [(.blk 1 (List.map c_i64 l2927))]) (t := 9) e2988
  rcases cnd_or h with ⟨h2990, h⟩ | ⟨h2990, h⟩
  rotate_left
  ·have g2995 := c_str_eql (P := PP) (cf := evF PP T n) (fl := 0) (H := [(.blk 1 (List.map c_i64 l2927))]) (t := 9) h2990
   exact (congrArg (maskR [true, false, false, false, true, true, true] [false, false, true, true] false 0 1) (next_z (live := some [true, false, false, false, true, true, true, true]) (tr := false) (st' := f29_L1_S a2735 i2815 l2927 i2928 (IntKind.i64.wrap (i2929 + 1))) ⟨[tt 14, (20, (iv ((a2735.size : Nat) : Int)), none), tt 21, tt 25, (34, (sv s2973), none), (35, (iv v2976), none), (37, (iv v2979), none), tt 38, (41, (sv v2984), none), (47, (sv s2987), none), ff 48], []⟩ [] [] rfl (W8 g2995 g2989 g2986 g2983 g2981 g2978 g2975 g2972 <| W2 g2970 g2968 <| Z g2967 Z0) (by kernel_rfl) trivial rfl)).trans (f29_L1_ok n a2735 i2815 m l2927 i2928 (IntKind.i64.wrap (i2929 + 1)) r h)
  have g2991 := c_str_eql (P := PP) (cf := evF PP T n) (fl := 0) (H := [(.blk 1 (List.map c_i64 l2927))]) (t := 9) h2990
  obtain ⟨l2992, e2993, h⟩ := bnd_some h
  have g2994 := app_ms (fl := 0) (H := [(.blk 1 (List.map c_i64 l2927))]) (id := 0) (s := 1) (bytes := 8) (c := c_i64) (l := l2927) e2993 rfl c_i64_len (by omega) (by omega) (by omega)
  exact (congrArg (maskR [true, false, false, false, true, true, true] [false, false, true, true] false 0 1) (next_z (live := some [true, false, false, false, true, true, true, true]) (tr := false) (st' := f29_L1_S a2735 i2815 l2992 i2929 (IntKind.i64.wrap (i2929 + 1))) ⟨[tt 14, (20, (iv ((a2735.size : Nat) : Int)), none), tt 21, tt 25, (34, (sv s2973), none), (35, (iv v2976), none), (37, (iv v2979), none), tt 38, (41, (sv v2984), none), (47, (sv s2987), none), tt 48, (54, (.ms 0 l2992.length 0 l2992.length), (some [(.blk 1 (List.map c_i64 l2992))]))], []⟩ [] [] rfl (W8 g2994 g2991 g2989 g2986 g2983 g2981 g2978 g2975 <| W4 g2972 g2970 g2968 g2967 Z0) (by kernel_rfl) trivial rfl)).trans (f29_L1_ok n a2735 i2815 m l2992 i2929 (IntKind.i64.wrap (i2929 + 1)) r h)
def f29_L0 (n : Nat) (a2735 : ByteArray) : Nat → (List Int) → Int → Option ((List Int) ⊕ (List Int))
 | 0, _, _ => none
 | m + 1, l2814, i2815 => (cnd (decide (i2815 < ((a2735.size : Nat) : Int))) (bnd (f29_L1 n a2735 i2815 n l2814 0 1) fun v3003 => (cnd (v3003.2 == 0) (some (Sum.inl v3003.1)) (f29_L0 n a2735 m v3003.1 (IntKind.i64.wrap (i2815 + v3003.2))))) (some (Sum.inr l2814)))
theorem f29_L0_ok (n : Nat) (a2735 : ByteArray) : ∀ (m : Nat) (l2814 : (List Int)) (i2815 : Int) (r : ((List Int) ⊕ (List Int))), f29_L0 n a2735 m l2814 i2815 = some r → maskR [false, false, false, false, true] [false, false, true, true] false 0 1 (evLoopH (headSt (some [true, false, false, false, true, true]) false 0 1) (evC PP (evF PP T n) n 0 L29_0) m (f29_L0_S a2735 l2814 i2815)) = (match r with | .inl r => some (.ret, f29_L0_E0 a2735 r) | .inr r => some ((.exit 0), f29_L0_E1 a2735 r))
 | 0, _, _, _, h => by cases h
 | m + 1, l2814, i2815, r, h => by
  rw [f29_L0] at h
  have g2896 := lenStr_9 (cf := evF PP T n) (fl := 0) (H := [(.blk 1 (List.map c_i64 l2814))]) a2735
  rcases cnd_or h with ⟨h2897, h⟩ | ⟨h2897, h⟩
  rotate_left
  ·have g3007 := bool_eq h2897
   cases h
   exact last_z (live := some [true, false, false, false, true, true]) (tr' := false) (st' := f29_L0_E1 a2735 l2814) ⟨[(11, (iv ((a2735.size : Nat) : Int)), none), ff 12], []⟩ [] [] rfl (W2 g3007 g2896 Z0) (by kernel_rfl) trivial
  have g2898 := bool_eq h2897
  have g3000 : cleanQ false 0 1 [(.blk 1 (List.map c_i64 l2814))] := trivial
  obtain ⟨v3003, e3001, h⟩ := bnd_some h
  have g3002 := f29_L1_ok n a2735 i2815 n l2814 0 1 _ e3001
  rcases cnd_or h with ⟨h3004, h⟩ | ⟨h3004, h⟩
  ·have g3005 := bool_eq h3004
   cases h
   exact last_z (live := some [true, false, false, false, true, true]) (tr' := false) (st' := f29_L0_E0 a2735 v3003.1) ⟨[(11, (iv ((a2735.size : Nat) : Int)), none), tt 12, tt 56], []⟩ [((.exit 2), f29_L1_E0 a2735 i2815 v3003.1 v3003.2)] [] rfl (W4 g3005 g3002 g3000 g2898 <| Z g2896 Z0) (by kernel_rfl) trivial
  have g3006 := bool_eq h3004
  exact (congrArg (maskR [false, false, false, false, true] [false, false, true, true] false 0 1) (next_z (live := some [true, false, false, false, true, true]) (tr := false) (st' := f29_L0_S a2735 v3003.1 (IntKind.i64.wrap (i2815 + v3003.2))) ⟨[(11, (iv ((a2735.size : Nat) : Int)), none), tt 12, ff 56], []⟩ [((.exit 2), f29_L1_E0 a2735 i2815 v3003.1 v3003.2)] [] rfl (W4 g3006 g3002 g3000 g2898 <| Z g2896 Z0) (by kernel_rfl) trivial rfl)).trans (f29_L0_ok n a2735 m v3003.1 (IntKind.i64.wrap (i2815 + v3003.2)) r h)
def f29 : Nat → ByteArray → Option ((List Int) × Int)
 | 0, _ => none
 | n + 1, a2735 => (bnd2 (f29_L0 n a2735 n [] 0) (fun v3011 => (some ([], 4))) (fun v3012 => (some (v3012, 0))))
theorem f29_ok (n : Nat) (a2735 : ByteArray) (r : ((List Int) × Int)) (h : f29 n a2735 = some r) : pv PP T n 29 [(sv a2735)] = some (.tup [(.sl false (List.map c_i64 r.1)), (iv r.2)]) := by
 cases n with
 | zero => cases h
 | succ n =>
  rw [f29] at h
  have g3008 : cleanQ false 0 1 [(.blk 1 (List.map c_i64 []))] := trivial
  rcases bnd2_some h with ⟨v3011, e3009, h⟩ | ⟨v3012, e3009, h⟩
  ·have g3010 := f29_L0_ok n a2735 n [] 0 _ e3009
   cases h
   exact pv_z (F := F29) ⟨[], []⟩ [(.ret, f29_L0_E0 a2735 v3011)] [] rfl (W2 g3010 g3008 Z0) (by kernel_rfl)
  have g3010 := f29_L0_ok n a2735 n [] 0 _ e3009
  cases h
  refine pv_evF (evF_z (F := F29) ⟨[], []⟩ [((.exit 0), f29_L0_E1 a2735 v3012)] [] rfl (r := (.tup [(.ms 0 v3012.length 0 v3012.length), (iv 0)])) (H' := [(.blk 1 (List.map c_i64 v3012))]) (W2 g3010 g3008 Z0) (by kernel_rfl)) ?_
  show (AV.tup [(seal1 [(.blk 1 (List.map c_i64 v3012))] 0 (.ms 0 v3012.length 0 v3012.length)), (seal1 [(.blk 1 (List.map c_i64 v3012))] 0 (iv 0))]) = _
  rw [seal1_ms (H := [(.blk 1 (List.map c_i64 v3012))]) (id := 0) (s := 1) (c := c_i64) (l := v3012) rfl (c_i64_seal _ _ _)]
  first | done | rfl
def f30_L0_S (a3013 : (List Int)) (i3043 : Int) : St := ⟨[(.sl false (List.map c_i64 a3013)), U, U, (iv i3043), U, U, U, U, U, U, U, U, U, U, U, U, U, U, U, U, U, U, U, U, U, U, U, U, U, U, U, U, U, U, U, U], []⟩
def f30_L0_E0 (a3013 : (List Int)) : St := ⟨[U, U, bt, U, U, U, U, U, U, U, U, U, U, U, U, U, U, U, U, U, U, U, U, U, U, U, U, U, U, U, U, U, U, U, U, U], []⟩
def f30_L0_E1 (a3013 : (List Int)) : St := ⟨[U, U, U, U, U, U, U, U, U, U, U, U, U, U, U, U, U, U, U, U, U, U, U, U, U, U, U, U, U, U, U, U, U, U, U, U], []⟩
def f30_L0 (n : Nat) (a3013 : (List Int)) : Nat → Int → Option (Unit ⊕ Unit)
 | 0, _ => none
 | m + 1, i3043 => (cnd (decide (i3043 < ((a3013.length : Nat) : Int))) (bnd (idx a3013 i3043) fun x3063 => (cnd (x3063 == 32) (bnd (idx a3013 (IntKind.i64.wrap (i3043 - 1))) fun x3068 => (cnd (x3068 == 32) (some (Sum.inl ())) (f30_L0 n a3013 m (IntKind.i64.wrap (i3043 + 1))))) (f30_L0 n a3013 m (IntKind.i64.wrap (i3043 + 1))))) (some (Sum.inr ())))
theorem f30_L0_ok (n : Nat) (a3013 : (List Int)) : ∀ (m : Nat) (i3043 : Int) (r : (Unit ⊕ Unit)), f30_L0 n a3013 m i3043 = some r → maskR [] [false, false, true] false 0 0 (evLoopH (headSt (some [true, false, false, true]) false 0 0) (evC PP (evF PP T n) n 0 L30_0) m (f30_L0_S a3013 i3043)) = (match r with | .inl r => some (.ret, f30_L0_E0 a3013) | .inr r => some ((.exit 0), f30_L0_E1 a3013))
 | 0, _, _, h => by cases h
 | m + 1, i3043, r, h => by
  rw [f30_L0] at h
  have g3060 := len_sl (P := PP) (cf := evF PP T n) (fl := 0) (H := []) (f := false) (c := c_i64) (l := a3013)
  rcases cnd_or h with ⟨h3061, h⟩ | ⟨h3061, h⟩
  rotate_left
  ·have g3075 := bool_eq h3061
   cases h
   exact last_z (live := some [true, false, false, true]) (tr' := false) (st' := f30_L0_E1 a3013) ⟨[(19, (iv ((a3013.length : Nat) : Int)), none), ff 20], []⟩ [] [] rfl (W2 g3075 g3060 Z0) (by kernel_rfl) trivial
  have g3062 := bool_eq h3061
  obtain ⟨x3063, e3064, h⟩ := bnd_some h
  have g3065 := idxl (H := []) (f := false) (c := c_i64) e3064 (c_i64_len _)
  rcases cnd_or h with ⟨h3066, h⟩ | ⟨h3066, h⟩
  rotate_left
  ·have g3074 := bool_eq h3066
   exact (congrArg (maskR [] [false, false, true] false 0 0) (next_z (live := some [true, false, false, true]) (tr := false) (st' := f30_L0_S a3013 (IntKind.i64.wrap (i3043 + 1))) ⟨[(19, (iv ((a3013.length : Nat) : Int)), none), tt 20, (25, (.rptr [(iv x3063)]), none), ff 27], []⟩ [] [] rfl (W4 g3074 g3065 g3062 g3060 Z0) (by kernel_rfl) trivial rfl)).trans (f30_L0_ok n a3013 m (IntKind.i64.wrap (i3043 + 1)) r h)
  have g3067 := bool_eq h3066
  obtain ⟨x3068, e3069, h⟩ := bnd_some h
  have g3070 := idxl (H := []) (f := false) (c := c_i64) e3069 (c_i64_len _)
  rcases cnd_or h with ⟨h3071, h⟩ | ⟨h3071, h⟩
  ·have g3072 := bool_eq h3071
   cases h
   exact last_z (live := some [true, false, false, true]) (tr' := false) (st' := f30_L0_E0 a3013) ⟨[(19, (iv ((a3013.length : Nat) : Int)), none), tt 20, (25, (.rptr [(iv x3063)]), none), tt 27, (32, (.rptr [(iv x3068)]), none), tt 34], []⟩ [] [] rfl (W4 g3072 g3070 g3067 g3065 <| W2 g3062 g3060 Z0) (by kernel_rfl) trivial
  have g3073 := bool_eq h3071
  exact (congrArg (maskR [] [false, false, true] false 0 0) (next_z (live := some [true, false, false, true]) (tr := false) (st' := f30_L0_S a3013 (IntKind.i64.wrap (i3043 + 1))) ⟨[(19, (iv ((a3013.length : Nat) : Int)), none), tt 20, (25, (.rptr [(iv x3063)]), none), tt 27, (32, (.rptr [(iv x3068)]), none), ff 34], []⟩ [] [] rfl (W4 g3073 g3070 g3067 g3065 <| W2 g3062 g3060 Z0) (by kernel_rfl) trivial rfl)).trans (f30_L0_ok n a3013 m (IntKind.i64.wrap (i3043 + 1)) r h)
def f30 : Nat → (List Int) → Option Bool
 | 0, _ => none
 | n + 1, a3013 => (bnd (idx a3013 0) fun x3014 => (cnd (x3014 == 32) (some true) (bnd (idx a3013 (IntKind.i64.wrap (((a3013.length : Nat) : Int) - 1))) fun x3021 => (cnd (x3021 == 32) (some true) (bnd2 (f30_L0 n a3013 n 1) (fun v3079 => (some true)) (fun v3080 => (some false)))))))
theorem f30_ok (n : Nat) (a3013 : (List Int)) (r : Bool) (h : f30 n a3013 = some r) : pv PP T n 30 [(.sl false (List.map c_i64 a3013))] = some (bv r) := by
 cases n with
 | zero => cases h
 | succ n =>
  rw [f30] at h
  obtain ⟨x3014, e3015, h⟩ := bnd_some h
  have g3016 := idxl (H := []) (f := false) (c := c_i64) e3015 (c_i64_len _)
  rcases cnd_or h with ⟨h3017, h⟩ | ⟨h3017, h⟩
  ·have g3018 := bool_eq h3017
   cases h
   exact pz F30 ⟨[(5, (.rptr [(iv x3014)]), none), tt 7], []⟩ (W2 g3018 g3016 Z0)
  have g3019 := bool_eq h3017
  have g3020 := len_sl (P := PP) (cf := evF PP T n) (fl := 0) (H := []) (f := false) (c := c_i64) (l := a3013)
  obtain ⟨x3021, e3022, h⟩ := bnd_some h
  have g3023 := idxl (H := []) (f := false) (c := c_i64) e3022 (c_i64_len _)
  rcases cnd_or h with ⟨h3024, h⟩ | ⟨h3024, h⟩
  ·have g3025 := bool_eq h3024
   cases h
   exact pz F30 ⟨[(5, (.rptr [(iv x3014)]), none), ff 7, (11, (iv ((a3013.length : Nat) : Int)), none), (13, (.rptr [(iv x3021)]), none), tt 15], []⟩ (W4 g3025 g3023 g3020 g3019 <| Z g3016 Z0)
  have g3026 := bool_eq h3024
  have g3076 : cleanQ false 0 0 [] := trivial
  rcases bnd2_some h with ⟨v3079, e3077, h⟩ | ⟨v3080, e3077, h⟩
  ·have g3078 := f30_L0_ok n a3013 n 1 _ e3077
   cases h
   exact pv_z (F := F30) ⟨[(5, (.rptr [(iv x3014)]), none), ff 7, (11, (iv ((a3013.length : Nat) : Int)), none), (13, (.rptr [(iv x3021)]), none), ff 15], []⟩ [(.ret, f30_L0_E0 a3013)] [] rfl (W4 g3078 g3076 g3026 g3023 <| W2 g3020 g3019 <| Z g3016 Z0) (by kernel_rfl)
  have g3078 := f30_L0_ok n a3013 n 1 _ e3077
  cases h
  exact pv_z (F := F30) ⟨[(5, (.rptr [(iv x3014)]), none), ff 7, (11, (iv ((a3013.length : Nat) : Int)), none), (13, (.rptr [(iv x3021)]), none), ff 15], []⟩ [((.exit 0), f30_L0_E1 a3013)] [] rfl (W4 g3078 g3076 g3026 g3023 <| W2 g3020 g3019 <| Z g3016 Z0) (by kernel_rfl)
def f31_L0_S (a3081 : (List Int)) (i3095 : Int) : St := ⟨[(.sl false (List.map c_i64 a3081)), U, U, (iv i3095), U, U, U, U, U, U, U, U, U, U, U, U], []⟩
def f31_L0_E0 (a3081 : (List Int)) : St := ⟨[U, U, bf, U, U, U, U, U, U, U, U, U, U, U, U, U], []⟩
def f31_L0_E1 (a3081 : (List Int)) : St := ⟨[U, U, U, U, U, U, U, U, U, U, U, U, U, U, U, U], []⟩
def f31_L0 (n : Nat) (a3081 : (List Int)) : Nat → Int → Option (Unit ⊕ Unit)
 | 0, _ => none
 | m + 1, i3095 => (cnd (decide (i3095 < ((a3081.length : Nat) : Int))) (bnd (idx a3081 i3095) fun x3112 => (bnd (f49 n x3112) fun v3115 => (cnd (v3115 != 0) (some (Sum.inl ())) (f31_L0 n a3081 m (IntKind.i64.wrap (i3095 + 1)))))) (some (Sum.inr ())))
theorem f31_L0_ok (n : Nat) (a3081 : (List Int)) : ∀ (m : Nat) (i3095 : Int) (r : (Unit ⊕ Unit)), f31_L0 n a3081 m i3095 = some r → maskR [] [false, false, true] false 0 0 (evLoopH (headSt (some [true, false, false, true]) false 0 0) (evC PP (evF PP T n) n 0 L31_0) m (f31_L0_S a3081 i3095)) = (match r with | .inl r => some (.ret, f31_L0_E0 a3081) | .inr r => some ((.exit 0), f31_L0_E1 a3081))
 | 0, _, _, h => by cases h
 | m + 1, i3095, r, h => by
  rw [f31_L0] at h
  have g3109 := len_sl (P := PP) (cf := evF PP T n) (fl := 0) (H := []) (f := false) (c := c_i64) (l := a3081)
  rcases cnd_or h with ⟨h3110, h⟩ | ⟨h3110, h⟩
  rotate_left
  ·have g3121 := bool_eq h3110
   cases h
   exact last_z (live := some [true, false, false, true]) (tr' := false) (st' := f31_L0_E1 a3081) ⟨[(6, (iv ((a3081.length : Nat) : Int)), none), ff 7], []⟩ [] [] rfl (W2 g3121 g3109 Z0) (by kernel_rfl) trivial
  have g3111 := bool_eq h3110
  obtain ⟨x3112, e3113, h⟩ := bnd_some h
  have g3114 := idxl (H := []) (f := false) (c := c_i64) e3113 (c_i64_len _)
  obtain ⟨v3115, e3116, h⟩ := bnd_some h
  have g3117 := f49_ok n x3112 _ e3116
  rcases cnd_or h with ⟨h3118, h⟩ | ⟨h3118, h⟩
  ·have g3119 := bool_eq h3118
   cases h
   exact last_z (live := some [true, false, false, true]) (tr' := false) (st' := f31_L0_E0 a3081) ⟨[(6, (iv ((a3081.length : Nat) : Int)), none), tt 7, (12, (.rptr [(iv x3112)]), none), (14, (iv v3115), none), tt 15], []⟩ [] [] rfl (W4 g3119 g3117 g3114 g3111 <| Z g3109 Z0) (by kernel_rfl) trivial
  have g3120 := bool_eq h3118
  exact (congrArg (maskR [] [false, false, true] false 0 0) (next_z (live := some [true, false, false, true]) (tr := false) (st' := f31_L0_S a3081 (IntKind.i64.wrap (i3095 + 1))) ⟨[(6, (iv ((a3081.length : Nat) : Int)), none), tt 7, (12, (.rptr [(iv x3112)]), none), (14, (iv v3115), none), ff 15], []⟩ [] [] rfl (W4 g3120 g3117 g3114 g3111 <| Z g3109 Z0) (by kernel_rfl) trivial rfl)).trans (f31_L0_ok n a3081 m (IntKind.i64.wrap (i3095 + 1)) r h)
def f31 : Nat → (List Int) → Option Bool
 | 0, _ => none
 | n + 1, a3081 => (bnd2 (f31_L0 n a3081 n 0) (fun v3125 => (some false)) (fun v3126 => (some true)))
theorem f31_ok (n : Nat) (a3081 : (List Int)) (r : Bool) (h : f31 n a3081 = some r) : pv PP T n 31 [(.sl false (List.map c_i64 a3081))] = some (bv r) := by
 cases n with
 | zero => cases h
 | succ n =>
  rw [f31] at h
  have g3122 : cleanQ false 0 0 [] := trivial
  rcases bnd2_some h with ⟨v3125, e3123, h⟩ | ⟨v3126, e3123, h⟩
  ·have g3124 := f31_L0_ok n a3081 n 0 _ e3123
   cases h
   exact pv_z (F := F31) ⟨[], []⟩ [(.ret, f31_L0_E0 a3081)] [] rfl (W2 g3124 g3122 Z0) (by kernel_rfl)
  have g3124 := f31_L0_ok n a3081 n 0 _ e3123
  cases h
  exact pv_z (F := F31) ⟨[], []⟩ [((.exit 0), f31_L0_E1 a3081)] [] rfl (W2 g3124 g3122 Z0) (by kernel_rfl)
def f13 : Nat → ByteArray → Option Int
 | 0, _ => none
 | n + 1, a3127 => (cnd (decide (a3127 = (⟨#[]⟩ : ByteArray))) (some 14) (cnd (decide (((a3127.size : Nat) : Int) > 40)) (some 3) (bnd (f29 n a3127) fun v3135 => (cnd (v3135.2 != 0) (some v3135.2) (cnd (((v3135.1.length : Nat) : Int) == 0) (some 14) (bnd (f30 n v3135.1) fun v3145 => (cnd (v3145) (some 14) (bnd (f31 n v3135.1) fun v3150 => (cnd (v3150) (some 14) (some 0))))))))))
theorem f13_ok (n : Nat) (a3127 : ByteArray) (r : Int) (h : f13 n a3127 = some r) : pv PP T n 13 [(sv a3127)] = some (iv r) := by
 cases n with
 | zero => cases h
 | succ n =>
  rw [f13] at h
  rcases cnd_or h with ⟨h3128, h⟩ | ⟨h3128, h⟩
  ·have g3129 := c_str_eql (P := PP) (cf := evF PP T n) (fl := 0) (H := []) (t := 9) h3128
   cases h
   exact pz F13 ⟨[tt 6], []⟩ (Z g3129 Z0)
  have g3130 := c_str_eql (P := PP) (cf := evF PP T n) (fl := 0) (H := []) (t := 9) h3128
  have g3131 := lenStr_9 (cf := evF PP T n) (fl := 0) (H := []) a3127
  rcases cnd_or h with ⟨h3132, h⟩ | ⟨h3132, h⟩
  ·have g3133 := bool_eq h3132
   cases h
   exact pz F13 ⟨[ff 6, (8, (iv ((a3127.size : Nat) : Int)), none), tt 9], []⟩ (W2 g3133 g3131 <| Z g3130 Z0)
  have g3134 := bool_eq h3132
  obtain ⟨v3135, e3136, h⟩ := bnd_some h
  have g3137 := f29_ok n a3127 _ e3136
  rcases cnd_or h with ⟨h3138, h⟩ | ⟨h3138, h⟩
  ·have g3139 := bool_eq h3138
   cases h
   exact pz F13 ⟨[ff 6, (8, (iv ((a3127.size : Nat) : Int)), none), ff 9, (12, (.tup [(.sl false (List.map c_i64 v3135.1)), (iv v3135.2)]), none), tt 16], []⟩ (W4 g3139 g3137 g3134 g3131 <| Z g3130 Z0)
  have g3140 := bool_eq h3138
  have g3141 := len_sl (P := PP) (cf := evF PP T n) (fl := 0) (H := []) (f := false) (c := c_i64) (l := v3135.1)
  rcases cnd_or h with ⟨h3142, h⟩ | ⟨h3142, h⟩
  ·have g3143 := bool_eq h3142
   cases h
   exact pz F13 ⟨[ff 6, (8, (iv ((a3127.size : Nat) : Int)), none), ff 9, (12, (.tup [(.sl false (List.map c_i64 v3135.1)), (iv v3135.2)]), none), ff 16, (19, (iv ((v3135.1.length : Nat) : Int)), none), tt 20], []⟩ (W4 g3143 g3141 g3140 g3137 <| W2 g3134 g3131 <| Z g3130 Z0)
  have g3144 := bool_eq h3142
  obtain ⟨v3145, e3146, h⟩ := bnd_some h
  rcases cnd_or h with ⟨h3147, h⟩ | ⟨h3147, h⟩
  ·have g3148 := by have q := f30_ok n v3135.1 _ e3146; rw [h3147] at q; exact q
   cases h
   exact pz F13 ⟨[ff 6, (8, (iv ((a3127.size : Nat) : Int)), none), ff 9, (12, (.tup [(.sl false (List.map c_i64 v3135.1)), (iv v3135.2)]), none), ff 16, (19, (iv ((v3135.1.length : Nat) : Int)), none), ff 20, tt 23], []⟩ (W8 g3148 g3144 g3141 g3140 g3137 g3134 g3131 g3130 Z0)
  have g3149 := by have q := f30_ok n v3135.1 _ e3146; rw [h3147] at q; exact q
  obtain ⟨v3150, e3151, h⟩ := bnd_some h
  rcases cnd_or h with ⟨h3152, h⟩ | ⟨h3152, h⟩
  ·have g3153 := by have q := f31_ok n v3135.1 _ e3151; rw [h3152] at q; exact q
   cases h
   exact pz F13 ⟨[ff 6, (8, (iv ((a3127.size : Nat) : Int)), none), ff 9, (12, (.tup [(.sl false (List.map c_i64 v3135.1)), (iv v3135.2)]), none), ff 16, (19, (iv ((v3135.1.length : Nat) : Int)), none), ff 20, ff 23, tt 27], []⟩ (W8 g3153 g3149 g3144 g3141 g3140 g3137 g3134 g3131 <| Z g3130 Z0)
  have g3154 := by have q := f31_ok n v3135.1 _ e3151; rw [h3152] at q; exact q
  cases h
  exact pz F13 ⟨[ff 6, (8, (iv ((a3127.size : Nat) : Int)), none), ff 9, (12, (.tup [(.sl false (List.map c_i64 v3135.1)), (iv v3135.2)]), none), ff 16, (19, (iv ((v3135.1.length : Nat) : Int)), none), ff 20, ff 23, ff 27], []⟩ (W8 g3154 g3149 g3144 g3141 g3140 g3137 g3134 g3131 <| Z g3130 Z0)
def f2_L0_S (a3155 : GEdit) (i3202 : Int) : St := ⟨[U, (.ptr 0 1 0 0), U, (iv i3202), U, U, U, U, U, U, U, U, U, U, U, U, U, U, U, U, U, U, U, U, U, U, U, U, U, U, U, U, U, U, U, U, U, U, U, U, U, U, U, U, U, U, U, U, U, U, U, U, U, U, U, U, U, U, U, U, U, U, U, U, U, U, U, U, U, U], [(.blk 10 [(c_GEdit a3155)])]⟩
def f2_L0_E0 (a3155 : GEdit) : St := ⟨[U, U, (iv 10), U, U, U, U, U, U, U, U, U, U, U, U, U, U, U, U, U, U, U, U, U, U, U, U, U, U, U, U, U, U, U, U, U, U, U, U, U, U, U, U, U, U, U, U, U, U, U, U, U, U, U, U, U, U, U, U, U, U, U, U, U, U, U, U, U, U, U], [(.blk 10 [(c_GEdit a3155)])]⟩
def f2_L0_E1 (a3155 : GEdit) : St := ⟨[U, (.ptr 0 1 0 0), U, U, U, U, U, U, U, U, U, U, U, U, U, U, U, U, U, U, U, U, U, U, U, U, U, U, U, U, U, U, U, U, U, U, U, U, U, U, U, U, U, U, U, U, U, U, U, U, U, U, U, U, U, U, U, U, U, U, U, U, U, U, U, U, U, U, U, U], [(.blk 10 [(c_GEdit a3155)])]⟩
def f2_L0 (n : Nat) (a3155 : GEdit) : Nat → Int → Option (Unit ⊕ Unit)
 | 0, _ => none
 | m + 1, i3202 => (cnd (decide (i3202 < ((a3155.Parts.length : Nat) : Int))) (bnd (idx a3155.Parts (IntKind.i64.wrap (i3202 - 1))) fun x3219 => (bnd (idx a3155.Parts i3202) fun x3222 => (cnd (decide (x3219 ≥ x3222)) (some (Sum.inl ())) (f2_L0 n a3155 m (IntKind.i64.wrap (i3202 + 1)))))) (some (Sum.inr ())))
theorem f2_L0_ok (n : Nat) (a3155 : GEdit) : ∀ (m : Nat) (i3202 : Int) (r : (Unit ⊕ Unit)), f2_L0 n a3155 m i3202 = some r → maskR [false, true] [false, false, true] false 0 1 (evLoopH (headSt (some [false, true, false, true]) false 0 1) (evC PP (evF PP T n) n 0 L2_0) m (f2_L0_S a3155 i3202)) = (match r with | .inl r => some (.ret, f2_L0_E0 a3155) | .inr r => some ((.exit 0), f2_L0_E1 a3155))
 | 0, _, _, h => by cases h
 | m + 1, i3202, r, h => by
  rw [f2_L0] at h
  have g3216 := len_sl (P := PP) (cf := evF PP T n) (fl := 0) (H := [(.blk 10 [(c_GEdit a3155)])]) (f := false) (c := c_i64) (l := a3155.Parts)
  rcases cnd_or h with ⟨h3217, h⟩ | ⟨h3217, h⟩
  rotate_left
  ·have g3228 := bool_eq h3217
   cases h
   exact last_z (live := some [false, true, false, true]) (tr' := false) (st' := f2_L0_E1 a3155) ⟨[(45, (iv ((a3155.Parts.length : Nat) : Int)), none), ff 46], []⟩ [] [] rfl (W2 g3228 g3216 Z0) (by kernel_rfl) trivial
  have g3218 := bool_eq h3217
  obtain ⟨x3219, e3220, h⟩ := bnd_some h
  have g3221 := idxl (H := [(.blk 10 [(c_GEdit a3155)])]) (f := false) (c := c_i64) e3220 (c_i64_len _)
  obtain ⟨x3222, e3223, h⟩ := bnd_some h
  have g3224 := idxl (H := [(.blk 10 [(c_GEdit a3155)])]) (f := false) (c := c_i64) e3223 (c_i64_len _)
  rcases cnd_or h with ⟨h3225, h⟩ | ⟨h3225, h⟩
  ·have g3226 := bool_eq h3225
   cases h
   exact last_z (live := some [false, true, false, true]) (tr' := false) (st' := f2_L0_E0 a3155) ⟨[(45, (iv ((a3155.Parts.length : Nat) : Int)), none), tt 46, (53, (.rptr [(iv x3219)]), none), (58, (.rptr [(iv x3222)]), none), tt 60], []⟩ [] [] rfl (W4 g3226 g3224 g3221 g3218 <| Z g3216 Z0) (by kernel_rfl) trivial
  have g3227 := bool_eq h3225
  exact (congrArg (maskR [false, true] [false, false, true] false 0 1) (next_z (live := some [false, true, false, true]) (tr := false) (st' := f2_L0_S a3155 (IntKind.i64.wrap (i3202 + 1))) ⟨[(45, (iv ((a3155.Parts.length : Nat) : Int)), none), tt 46, (53, (.rptr [(iv x3219)]), none), (58, (.rptr [(iv x3222)]), none), ff 60], []⟩ [] [] rfl (W4 g3227 g3224 g3221 g3218 <| Z g3216 Z0) (by kernel_rfl) trivial rfl)).trans (f2_L0_ok n a3155 m (IntKind.i64.wrap (i3202 + 1)) r h)
def f2 : Nat → GEdit → Option Int
 | 0, _ => none
 | n + 1, a3155 => (cnd (decide (a3155.Kind < 1)) (some 9) (cnd (decide (a3155.Kind > 12)) (some 9) (cnd (a3155.Kind == 7) (bnd (f9 n a3155.A) fun v3164 => (cnd (v3164 == 0) (some 9) (bnd (f10 n a3155.Kind) fun v3170 => (bnd (f11 n a3155 v3170) fun v3173 => (cnd (v3173) (cnd (decide (((a3155.Via.length : Nat) : Int) > 64)) (some 3) (cnd (decide (((a3155.Parts.length : Nat) : Int) > 64)) (some 3) (bnd (f12 n a3155) fun v3185 => (cnd (v3185) (bnd2 (f2_L0 n a3155 n 1) (fun v3232 => (some 10)) (fun v3233 => (cnd (decide (a3155.Name = (⟨#[]⟩ : ByteArray))) (some 0) (bnd (f13 n a3155.Name) fun v3237 => (cnd (v3237 != 0) (some 14) (some 0)))))) (some 2))))) (some 1)))))) (bnd (f10 n a3155.Kind) fun v3246 => (bnd (f11 n a3155 v3246) fun v3249 => (cnd (v3249) (cnd (decide (((a3155.Via.length : Nat) : Int) > 64)) (some 3) (cnd (decide (((a3155.Parts.length : Nat) : Int) > 64)) (some 3) (bnd (f12 n a3155) fun v3261 => (cnd (v3261) (bnd2 (f2_L0 n a3155 n 1) (fun v3295 => (some 10)) (fun v3296 => (cnd (decide (a3155.Name = (⟨#[]⟩ : ByteArray))) (some 0) (bnd (f13 n a3155.Name) fun v3300 => (cnd (v3300 != 0) (some 14) (some 0)))))) (some 2))))) (some 1)))))))
end Go.Proofs.YtmflphfmefakfaaGreatDoor.Av
